/- Parts of the proof. -/
import Derived.Lib.ItoaNum
import Derived.Lib.LaidTab
import Derived.Shelf.SlSortCmp.Whole1
import Derived.Shelf.SlSortCmp.WholeK
import Derived.Test.YtecaahegomdbbaaGreatDoorRfB0a
set_option linter.all false
set_option maxRecDepth 100000
set_option maxHeartbeats 64000000
namespace Go.Proofs.YtecaahegomdbbaaGreatDoor.gp
open Go.Proofs.Tryz
open Go.RowKit
variable {e:En} {hi k lo:Int} {l:List En} {F:List Int} {ns:List Nd} {n:Nd} {p s:fQ} {t u:fY}
section
theorem pH:∀(l:List En) (s:List Int),∃x,(iB s l).2=s++x
 |[],s=>⟨[],by rw[iB,nk]⟩
 | e::r,s=>by
  rw[iB];split
  ·exact pH r s
  ·obtain⟨x,a⟩:=pH r (s++[e.node])
   grind
theorem tD:∀(l:List En) (s:List Int),s.Nodup->(iB s l).2.Nodup
 |[],s,h=>h
 |e::r,s,h=>by
  rw[iB];split
  ·exact tD r s h
  ·rename_i m;refine tD r (s++[e.node]) (List.nodup_append.2 ⟨h,by simp,λa f b g d=>?_⟩);rw[kl.1 g]at d;exact m (d▸f)
theorem pJ (k:Int):∀(l:List En) (s:List Int),k∈(iB s l).2↔k∈s∨∃e∈l,e.node=k
 |[],s=>by simp[iB]
 | e::r,s=>by
  rw[iB];split
  ·rename_i hm;dsimp only;rw[pJ k r s]
   grind
  ·dsimp only;rw[pJ k r (s++[e.node]),iK,kl]
   grind
def oA (F:List Int) (e:En):En:=⟨e.path,(F.idxOf e.node:Int)⟩
theorem ry:∀(l:List En) (s:List Int),(iB s l).1=l.map (oA (iB s l).2)
 |[],s=>rfl
 | e::r,s=>by
  rw[iB];split
  ·rename_i hm;obtain⟨x,a⟩:=pH r s;dsimp only;rw[jm,←ry r s]
   grind [oA]
  ·rename_i hm;obtain⟨x,a⟩:=pH r (s++[e.node]);dsimp only;rw[jm,←ry r (s++[e.node])]
   grind [oA]
theorem Ap:∀(l:List En) (s:List Int),jz (iB s l).2.length s.length (iB s l).1=true/\kE s.length (iB s l).1=(iB s l).2.length
 |[],s=>⟨rfl,rfl⟩
 | e::r,s=>by
  rw[iB];split
  ·rename_i hm;obtain⟨h1,a⟩:=Ap r s;obtain⟨x,d⟩:=pH r s
   grind [List.idxOf_lt_length_iff,List.length,iB,List.length_append,jz,kE]
  ·rename_i hm;obtain⟨h1,a⟩:=Ap r (s++[e.node]);obtain⟨x,d⟩:=pH r (s++[e.node])
   grind [List.length,iB,List.length_append,List.length_cons,List.length_nil,jz,kE]
structure sT (t:fY):Prop where
 inr:∀e∈t.es,0<=e.node/\e.node<t.ns.length
 len:t.es.length<=100
 path:∀e∈t.es,gU e.path=true
 nd:(t.es.map (·.path)).Nodup
 root:∃e∈t.es,e.path=[]/\gf t.ns e.node=1
 par:∀e∈t.es,e.path≠[]->∃d∈t.es,d.path=oF e.path/\gf t.ns d.node=1
 node:∀e∈t.es,fH (t.ns.getD e.node.toNat default)=true
 dir:∀e∈t.es,gf t.ns e.node=1->∀e'∈t.es,e'.node=e.node->e'=e
theorem Kl (h:∀e∈t.es,0<=e.node/\e.node<t.ns.length):t.es.all (xD t.ns.length)=true:=by
 grind [List.all_eq_true,xD,decide_eq_true]
theorem qo (h:(l.map (·.path)).Nodup) {a b:En} (d:a∈l) (f:b∈l) (g:a.path=b.path):a=b:=by
 induction l<;>grind
theorem jv:∀{l:List En},(l.map (·.path)).Nodup->∀{e:En},e∈l->fR l e.path=some e.node
 |[],_,e,he=>by cases he
 | x::r,h,e,he=>by
  rw[fR];split
  ·grind
  ·rename_i d;rw[jm,O9]at h;rcases hX.1 he with a|he
   ·grind
   ·exact jv h.2 he
theorem rv (h:(l.map (·.path)).Nodup):l.Nodup:=(zd.1 h).imp fS
theorem CD (h:l.Pairwise Bl):(l.map (·.path)).Nodup:=by
 grind [Bl,ie,sa]
theorem VB {a b:En} (d:gU a.path=true) (f:gU b.path=true) (g:a.path≠b.path) (h:x8 a b):Bl a b:=by
 grind [x8,ie,Bl,wE,fZ,Cu]
theorem rG:∀{l:List En},(∀e∈l,gU e.path=true)->(l.map (·.path)).Nodup->l.Pairwise x8->l.Pairwise Bl
 |[],_,_,_=>List.Pairwise.nil
 |x::r,hm,a,hs=>by
  rw[jr]at hs⊢;rw[jm,O9]at a;refine⟨by grind [VB],rG fS a.2 hs.2⟩
theorem vo:∀{l:List En} {p:fQ},(∀e∈l,gU e.path=true)->(∀e∈l,ie p e.path=true)->l.Pairwise Bl->ik (some p) l=true
 |[],_,_,_,_=>rfl
 |x::r,p,h1,d,a=>by
  rw[jr]at a;rw[ik,h1 x ir,d x ir,vo fS a.1 a.2];rfl
theorem JK {x:En} {r:List En} (h:(x::r).Pairwise Bl) (he:e∈x::r) (a:e.path=[]):x=e:=by
 grind [List.pairwise_cons,Bl,HX]
theorem Qe {α:Type} {l:List α} {e:α} (d:l.Nodup) (he:e∈l) (h:∀x∈l,x=e):l=[e]:=by
 cases l with
 |nil=>cases he
 |cons x r=>
  have a:=h x ir;subst a;cases r<;>simp_all
theorem Sd (h:k∈F):F[F.idxOf k]? =some k:=by
 grind
theorem Gu (h:k∈F):(F.map λk=>ns.getD k.toNat default).getD (F.idxOf k) default=ns.getD k.toNat default:=by
 grind
theorem sr (h:k∈F):gf (F.map λk=>ns.getD k.toNat default) (F.idxOf k:Int)=gf ns k:=by
 grind [gf,Int.toNat_natCast,Gu]
theorem wA (h:sT t):hN t=some (jw t.ns (jR t.es)):=by
 have a:=jg t.es;have hs:=l7 t.es;unfold hN;rw[Kl h.inr,iU];obtain⟨s,S⟩:∃s,s=jR t.es:=⟨_,rfl⟩;rw[←S]at a hs⊢;have g:∀e∈s,gU e.path=true:=λe he=>h.path e (a.mem_iff.1 he)
 have D:(s.map (·.path)).Nodup:=by grind [sT.nd]
 have H:=rG g D hs;obtain⟨F,f⟩:∃F,F=(iB [] s).2:=⟨_,rfl⟩;have w:(iB [] s).1=s.map (oA F):=by rw[f];exact ry s []
 have u:∀k,k∈F↔∃e∈s,e.node=k:=by grind [pJ]
 have V:F.Nodup:=by rw[f];exact tD s [] List.nodup_nil
 have Q:=Ap s [];rw[←f,w]at Q;have J:jw t.ns s=⟨s.map (oA F),F.map λk=>t.ns.getD k.toNat default⟩:=by unfold jw;rw[w,←f]
 rw[J];have M:∀e∈s,e.node∈F:=fS;obtain⟨ro,R,G,ab⟩:=h.root;have E:=a.mem_iff.2 R;cases s with
 |nil=>cases E
 | cons x r=>
  have T:x=ro:=JK H E G;subst T;have C:((x::r).map (oA F)).map (·.path)=(x::r).map (·.path):=by rw[sH];rfl
  have m:((x::r).map (oA F)).Pairwise Bl:=vr C.symm H;have aa:(((x::r).map (oA F)).map (·.path)).Nodup:=by rw[C];exact D
  have hm:gQ ⟨(x::r).map (oA F),F.map λk=>t.ns.getD k.toNat default⟩=true:=by
   unfold gQ;simp only[iO,decide_eq_true_eq];refine⟨⟨⟨by grind [List.length_map,List.length_cons,List.Perm.length_eq,sT.len],?_⟩,?_⟩,?_⟩
   ·refine(jB _ _ none 0 (iy _)).2 ⟨?_,?_,?_,?_,?_⟩
    ·rw[jm,ik];rw[show(oA F x).path=x.path from rfl,g x ir,decide_eq_true G];rw[jm,jr]at m;rw[show ik (some x.path) (r.map (oA F))=true from vo (λe he=>?_) (λe he=>m.1 e he) m.2]
     ·rfl
     ·obtain⟨y,n,rfl⟩:=lN.1 he;exact g y (by simp[n])
    ·grind
    ·grind
    ·intro i _ hi;rw[jF]at hi;obtain⟨e,he,hk⟩:=(u F[i]).1 (xd hi);rw[kv,qX,kp hi];show fH (t.ns.getD F[i].toNat default)=true
     rw[←hk];exact h.node e (a.mem_iff.1 he)
    ·intro i hi hk;refine⟨λZ=>fy,λ_=>?_⟩;rw[jF]at hi;obtain⟨e,he,K⟩:=(u F[i]).1 (xd hi);have B:F.idxOf e.node=i:=by rw[K];exact fS
     have N:gf t.ns e.node=1:=by rw[←hk,←B,sr (M e he)]
     unfold j1;rw[List.countP_map,UM]
     have:(x::r).filter ((λe=>decide (e.node=(i:Int)))∘oA F)=[e]:=by
      refine Qe (by grind [rv]) (HD.2 ⟨he,?_⟩) λy n=>?_
      ·simp only[VN,decide_eq_true_eq];show(F.idxOf e.node:Int)=i
       rw[B]
      ·obtain⟨U,I⟩:=HD.1 n;simp only[VN,decide_eq_true_eq]at I
       have ad:F.idxOf y.node=F.idxOf e.node:=by
        have:(F.idxOf y.node:Int)=i:=I;omega
       exact h.dir e (a.mem_iff.1 he) N y (a.mem_iff.1 U) fS
     rw[this];rfl
   ·show gf _ (F.idxOf x.node:Int)=1
    grind [sr]
   ·rw[lj];intro e' v;rw[jm,RG,vU]at v;obtain⟨e,he,rfl⟩:=lN.1 v;have L:e∈x::r:=by simp[he]
    have O:e.path≠[]:=fS;obtain⟨d,W,Y,X⟩:=h.par e (a.mem_iff.1 L) O
    grind [rp,fR,oA,oF,jv,List.mem_map_of_mem,gf,sr]
  rw[if_pos hm]
theorem vX (h:hN t=some u):t.es.all (xD t.ns.length)=true/\gQ (jw t.ns (jR t.es))=true/\u=jw t.ns (jR t.es):=by
 grind [hN,Option.some.inj]
theorem oh (h:gQ t=true):sT t:=by
 have a:=pC h;have g:=wz h;have f:=CD a;obtain⟨es,ns⟩:=t;dsimp only at a g f;unfold gQ at h;simp only[iO,decide_eq_true_eq]at h;obtain⟨⟨⟨⟨h1,m⟩,n⟩,s⟩,u⟩:=h;obtain⟨g1,g2,g3,g4,g5⟩:=(jB ns es none 0 (iy _)).1 n;have d:=po g2;cases es with
 |nil=>simp at h1
 | cons x r=>
  simp only[ik,iO,decide_eq_true_eq]at g1;have C:x.path=[]:=g1.1.2;refine⟨d,m,g,f,fS,λe he B=>?_,λe he=>?_,λe he hk e' v w=>?_⟩
  ·grind [absurd,List.all_eq_true,rp,fR,oF,hB]
  ·grind
  ·have hi:=d e he;have hc:=(g5 e.node.toNat fy (by rw[VZ hi.1];exact hk)).2 (iy _);unfold j1 at hc;rw[VZ hi.1,UM]at hc;obtain⟨z,D⟩:=HR.1 hc;have m1:e∈(x::r).filter λy=>decide (y.node=e.node):=fS
   have m2:e'∈(x::r).filter λy=>decide (y.node=e.node):=fS
   grind
theorem Nr (h:hN t=some u):sT t:=by
 obtain⟨h1,v,rfl⟩:=vX h;have g:=jg t.es;obtain⟨s,K⟩:∃s,s=jR t.es:=⟨_,rfl⟩;rw[←K]at g v;have a:=oh v;obtain⟨F,w⟩:∃F,F=(iB [] s).2:=⟨_,rfl⟩;have H:(iB [] s).1=s.map (oA F):=by rw[w];exact ry s []
 have M:∀k,k∈F↔∃e∈s,e.node=k:=by grind [pJ]
 have C:jw t.ns s=⟨s.map (oA F),F.map λk=>t.ns.getD k.toNat default⟩:=by unfold jw;rw[H,←w]
 rw[C]at a;have x:∀e∈t.es,e.node∈F:=fS;have f:∀e∈t.es,oA F e∈s.map (oA F):=fS;have I:∀e∈t.es,gf (F.map λk=>t.ns.getD k.toNat default) (oA F e).node=gf t.ns e.node:=λe he=>sr (x e he)
 refine⟨λe he=>?_,?_,λe he=>a.path (oA F e) (f e he),?_,?_,λe he J=>?_,λe he=>?_,λe he hk e' n N=>?_⟩
 ·grind [List.all_eq_true,xD]
 ·have:=a.len
  grind [List.length_map,List.Perm.length_eq]
 ·have:=a.nd;dsimp only at this;rw[sH]at this;exact(g.map (·.path)).nodup_iff.1 this
 ·obtain⟨e',n,m,B⟩:=a.root;obtain⟨e,he,rfl⟩:=lN.1 n;have het:=g.mem_iff.1 he;exact⟨e,het,m,by grind⟩
 ·obtain⟨L,E,m,B⟩:=a.par _ (f e he) J;obtain⟨d,D,rfl⟩:=lN.1 E;have G:=g.mem_iff.1 D;exact⟨d,G,m,by grind⟩
 ·have:=a.node _ (f e he);dsimp only at this;rw[show(oA F e).node.toNat=F.idxOf e.node from rfl,Gu (x e he)]at this;exact this
 ·have:=a.dir _ (f e he) ((I e he).trans hk) _ (f e' n) (by grind [oA]);have y:=congrArg En.path this;have y:e'.path=e.path:=y
  have O:(t.es.map (·.path)).Nodup:=by
   have:=a.nd;dsimp only at this;rw[sH]at this;exact(g.map (·.path)).nodup_iff.1 this
  grind [qo]
theorem wG:∀(l:List En) (n u:Nat),jz n u l=true->iB ((List.range u).map Int.ofNat) l=(l,(List.range (kE u l)).map Int.ofNat)
 |[],n,u,_=>rfl
 | e::r,n,u,h=>by
  simp only[jz,iO,decide_eq_true_eq]at h;obtain⟨⟨⟨h0,h1⟩,f⟩,a⟩:=h;obtain⟨k,hk⟩:=lO h0;obtain⟨p,z⟩:=e;dsimp only at hk h1 f a;subst hk
  have g:∀{m:Nat} {k:Nat},k<m->((List.range m).map Int.ofNat).idxOf (k:Int)=k:=λ{m k} fW=>by
   have t:((List.range m).map Int.ofNat).Nodup:=zd.2 (KH.imp fS);have:=List.Nodup.idxOf_getElem t k (by simpa using fW);simpa using this
  rw[iB,kE];dsimp only
  by_cases fW:(k:Int)<u
  ·rw[if_pos fW]at a⊢;rw[if_pos fS,g (show k<u by omega),wG r n u a]
  ·rw[if_neg fW]at a⊢;have s:k=u:=fy;subst s;rw[if_neg fS];have d:(List.range k).map Int.ofNat++[(k:Int)]=(List.range (k+1)).map Int.ofNat:=by rw[sV,pE];rfl
   rw[d,wG r n (k+1) a,jF,HP]
theorem CE (h:gQ t=true):hN t=some t:=by
 rw[wA (oh h)];have hs:jR t.es=t.es:=by grind [qU,jR,pC,l7,jg]
 obtain⟨es,ns⟩:=t;dsimp only at hs⊢;rw[hs];unfold gQ at h;simp only[iO,decide_eq_true_eq]at h;obtain⟨_,g2,g3,_,_⟩:=(jB ns es none 0 (iy _)).1 h.1.1.2;have:=wG es ns.length 0 g2;unfold jw;rw[show([]:List Int)=(List.range 0).map Int.ofNat from rfl,this,g3]
 congr 2
 rw[sH];apply wM<;>grind
def Qk (f:Int->Int) (e:En):En:=⟨e.path,f e.node⟩
end
section
def gO (p:hJ):Int:=p.pos+(p.data.length:Int)
def mP (lo hi:Int) (p:hJ):Option hJ:=
 if max lo p.pos<min hi (gO p)then some ⟨max lo p.pos,(p.data.drop (max lo p.pos-p.pos).toNat).take (min hi (gO p)-max lo p.pos).toNat⟩else none
def gW (l:List hJ) (lo hi:Int):List hJ:=l.filterMap (mP lo hi)
def lS:hJ->List hJ->List hJ
 |c,[]=>[c]
 |c,p::r=>if gO c=p.pos then lS ⟨c.pos,c.data++p.data⟩ r else c::lS p r
def jC:List hJ->List hJ
 |[]=>[]
 |p::r=>lS p r
def qN (l:List hJ) (pos:Int) (s:fQ):List hJ:=jC (gW l 0 pos++[⟨pos,s⟩]++gW l (pos+(s.length:Int)) 1099511627777)
def gB (n:Nd) (pos:Int) (s:fQ):Nd×Int:=
 if fH n=false∨n.kind≠2∨pos<0∨1099511627776<pos then(n,1)
 else if 1099511627776-pos<(s.length:Int)then(n,2)
 else if s=[]then(n,0)
 else if 4000<fE (qN n.data pos s)∨16<(qN n.data pos s).length then(n,13)
 else({n with data:=qN n.data pos s,size:=max n.size (pos+(s.length:Int))},0)
def ki (n:Nd) (size:Int):Nd×Int:=
 if fH n=false∨n.kind≠2∨size<0∨1099511627776<size then(n,1)
 else({n with data:=gW n.data 0 size,size:=size},0)
def js (g:Int) (l:List hJ):Prop:=l.Pairwise λp q=>gO p+g<=q.pos
theorem ext_iff (size:Int):∀(l:List hJ) (last:Int),(∀p∈l,p.data≠[])->(w9 size last l=true↔js 1 l/\(∀p∈l,last<p.pos/\gO p<=size)/\last<=size)
 |[],last,_=>by simp[w9,js]
 |p::r,last,h=>by
  have a:=h p ir;have d:0<p.data.length:=fS;have f:=ext_iff size r (gO p) fS
  grind [w9,gO,js,List.pairwise_cons,List.length]
theorem kB (n:Nd):jP n=true↔0<=n.size/\n.size<=1099511627776/\n.data.length<=16/\fE n.data<=4000/\js 1 n.data/\∀p∈n.data,p.data≠[]/\0<=p.pos/\gO p<=n.size:=by
 grind [jP,List.all_eq_true,jW,ext_iff,gO]
theorem oo {p q:hJ} (h:mP lo hi p=some q):q.data≠[]/\q.pos=max lo p.pos/\gO q=min hi (gO p):=by
 grind [mP,max,min,gO,List.length_take,List.length_drop,List.length_nil]
theorem pD {l:List hJ} {q:hJ} (h:q∈gW l lo hi):q.data≠[]/\lo<=q.pos/\gO q<=hi/\∃p∈l,p.pos<=q.pos/\gO q<=gO p:=by
 obtain⟨p,f,hc⟩:=Wm.1 h;obtain⟨h1,a,d⟩:=oo hc
 grind
theorem AT {l:List hJ} {g:Int} (h:js g l):js g (gW l lo hi):=by
 unfold js gW;rw[List.pairwise_filterMap];refine h.imp λ{a b} s m d b' f=>?_
 have h1:=(oo d).2.2;have n:=(oo f).2.1;omega
theorem ru (l:List hJ) (lo hi:Int):(gW l lo hi).length<=l.length:=List.length_filterMap_le _ _
theorem lI:∀(l:List hJ) (lo hi:Int),fE (gW l lo hi)<=fE l
 |[],_,_=>gJ _
 |p::r,lo,hi=>by
  have a:=lI r lo hi
  grind [gW,mP,fE,List.length,oo,List.length_take,List.length_drop]
theorem tk:∀(r:List hJ) (c:hJ),js 0 (c::r)->(∀p∈c::r,p.data≠[])->js 1 (lS c r)/\∀q∈lS c r,q.data≠[]/\(∃p∈c::r,q.pos=p.pos)/\∃p∈c::r,gO q=gO p
 |[],c,_,h=>by grind [lS,js,List.mem_singleton]
 | p::r,c,hs,h=>by
  unfold js at hs;rw[jr,jr]at hs;obtain⟨h1,d,f⟩:=hs;rw[lS];split
  ·rename_i he
   have g:gO ⟨c.pos,c.data++p.data⟩=gO p:=by
    unfold gO at he⊢;dsimp only;rw[hQ];omega
   have a:js 0 (⟨c.pos,c.data++p.data⟩::r):=by
    unfold js;rw[jr];exact fS
   obtain⟨g1,g2⟩:=tk r _ a mu
   grind
  ·rename_i he;obtain⟨g1,g2⟩:=tk r p (by grind [js,List.pairwise_cons]) fS
   grind [List.length,List.length_pos_iff,js,List.pairwise_cons,gO,List.mem_cons_of_mem]
theorem G5 {l:List hJ} (hs:js 0 l) (h:∀p∈l,p.data≠[]):js 1 (jC l)/\∀q∈jC l,q.data≠[]/\(∃p∈l,q.pos=p.pos)/\∃p∈l,gO q=gO p:=by
 cases l with
 |nil=>exact⟨List.Pairwise.nil,λq hq=>by cases hq⟩
 |cons p r=>exact tk r p hs h
theorem GP {l:List hJ} (h:js 1 l):js 0 l:=h.imp fS
theorem D5 {pos:Int} (h:jP n=true) (h0:0<=pos) (hs:s≠[]) (v:(s.length:Int)<=1099511627776-pos):js 1 (qN n.data pos s)/\∀q∈qN n.data pos s,q.data≠[]/\0<=q.pos/\gO q<=max n.size (pos+(s.length:Int)):=by
 obtain⟨f1,f2,f3,f4,f5,f6⟩:=(kB n).1 h
 have hm:∀p∈gW n.data 0 pos++[⟨pos,s⟩]++gW n.data (pos+(s.length:Int)) 1099511627777,p.data≠[]/\0<=p.pos/\gO p<=max n.size (pos+(s.length:Int)):=by
  intro p a;rcases iK.1 a with a|a
  ·rcases iK.1 a with a|a
   ·obtain⟨h1,f,g,x,d,m,t⟩:=pD a
    grind
   ·rw[kl.1 a];exact⟨hs,h0,by show pos+(s.length:Int)<=_;omega⟩
  ·obtain⟨h1,f,g,x,d,m,t⟩:=pD a
   grind
 have u:js 0 (gW n.data 0 pos++[⟨pos,s⟩]++gW n.data (pos+(s.length:Int)) 1099511627777):=by
  unfold js;rw[j6,j6];refine⟨⟨AT (GP f5),by simp,λp a q hq=>?_⟩,AT (GP f5),λp a q hq=>?_⟩
  ·rw[kl.1 hq];have:=(pD a).2.2.1
   grind
  ·have w:=(pD hq).2.1;rcases iK.1 a with a|a
   ·have:=(pD a).2.2.1;omega
   ·rw[kl.1 a];show pos+(s.length:Int)+0<=q.pos
    omega
 obtain⟨g1,g2⟩:=G5 u λp a=>(hm p a).1
 refine⟨g1,λq hq=>?_⟩;obtain⟨k1,⟨x,d,k2⟩,⟨y,B,k3⟩⟩:=g2 q hq
 grind
theorem jc (h:fH n=true) (hk:n.kind=2):jP n=true:=by
 grind [fH]
theorem Gf {m:Nd} (h:fH n=true) (hk:n.kind=2) (hm:m={n with data:=m.data,size:=m.size}) (a:jP m=true):fH m=true:=by
 have d:gT m=gT n:=by rw[hm];rfl
 grind [jq,jG,fH]
theorem mA (h:fH n=true) (pos:Int) (s:fQ):fH (gB n pos s).1=true:=by
 grind [gB,jc,kB,D5,Gf]
theorem yd (h:fH n=true) (size:Int):fH (ki n size).1=true:=by
 unfold ki;split
 ·exact h
 rename_i h1;have hk:n.kind=2:=fy;have a:=jc h hk;obtain⟨f1,f2,f3,f4,f5,f6⟩:=(kB n).1 a;refine Gf h hk fx ((kB _).2 ⟨?_,?_,?_,?_,AT f5,λq hq=>?_⟩)
 ·dsimp only;omega
 ·dsimp only;omega
 ·grind [Nat.le_trans,ru]
 ·grind [Nat.le_trans,lI]
 ·obtain⟨k1,k2,k3,_⟩:=pD hq
  grind
theorem nc (n:Nd) (pos:Int) (s:fQ):(gB n pos s).1.kind=n.kind:=by
 grind [gB]
theorem CX (n:Nd) (size:Int):(ki n size).1.kind=n.kind:=by
 grind [ki]
end
section
def qO (a b:fQ):fQ:=if a=[]then b else a++47::b
def nG (a b:fQ):Option fQ:=if gU a&&jM b then(if gU (qO a b)then some (qO a b)else none)else none
theorem rj {a b:fQ} (h:nG a b=some s):gU s=true/\fZ s=fZ a++[b]/\oF s=a/\s≠[]/\mO s=b:=by
 unfold nG at h;split at h
 ·rename_i d;rw[iO]at d;obtain⟨m,n⟩:=d;split at h
  ·rename_i hm;injection h with h
   rw[h]at hm;have t:=Fl n
   have key:s≠[]/\fZ s=fZ a++[b]:=by
    unfold qO at h
    by_cases h0:a=[]
    ·grind [Ax,ig,x2,kx]
    ·rw[if_neg h0]at h;have f:s≠[]:=by rw[←h];simp
     refine⟨f,?_⟩;rw[ig hm f,ig m h0];have g:s=je (hg a++[b]):=by rw[pN _ _ (kK a),Ao,h]
     rw[g,Ag _ ir]
     grind [u9,List.mem_singleton]
   grind [oF,List.dropLast_concat,ky,mO]
  ·cases h
 ·cases h
theorem C0 (c:UInt8):∀l:List fQ,c∈je l->c=47∨∃x∈l,c∈x
 |[],h=>by cases h
 |[x],h=> .inr ⟨x,by simp,h⟩
 | x::y::r,h=>by
  rw[je]at h;rcases iK.1 h with h|h
  ·grind
  ·rcases hX.1 h with h|h
   ·exact .inl h
   ·rcases C0 c (y::r) h with h|⟨z,a,h⟩<;>grind
theorem Pc (h:jM s=true):∀c∈s,c≠0:=by grind [jM,List.all_eq_true]
theorem Uz (h:gU s=true):∀c∈s,c≠0:=λc hc=>by
 rw[←ky h]at hc;rcases C0 c _ hc with rfl|⟨x,a,hc⟩
 ·decide
 ·exact Pc (ou a) c hc
def dg (n:Nat):UInt8:=UInt8.ofNat (48+n)
def FP:Nat->Nat->fQ->fQ
 |0,n,s=>dg n::s
 |k+1,n,s=>if 9<n then FP k (n/10) (dg (n% 10)::s)else dg n::s
def xu (n:Nat):fQ:=FP 20 n []
theorem Gc:∀(k n:Nat) (s:fQ),(FP k n s).length<=k+1+s.length
 |0,n,s=>by simp[FP];omega
 | k+1,n,s=>by
  rw[FP];split
  ·have:=Gc k (n/10) (dg (n% 10)::s)
   grind
  grind
theorem uo (n:Nat):(xu n).length<=21:=Gc 20 n []
def j3:List fQ:=[[97],[98],[99],[97,45],[97,98],[122],[113,46,114]]
def oY (n:Nat):fQ:=[116,101,120,116,32]++xu n++[32,111,102,32,116,104,105,115,32,97,110,100,32,116,104,97,116,44,32,97,110,100,32,111,102,32,116,104,105,115,32,97,110,100,32,116,104,97,116]
structure wg where
 es:List En
 ns:List Nd
 hx:List fQ
 files:List Nat
def mkNode (u:Nat):Nd:=⟨2,(u/5% 4096:Nat),(u% 3:Nat),(u% 4:Nat),(u% 1000000:Nat),
 if u% 11=0 then[⟨[117,115,101,114,46,107],118::xu (u% 100)⟩]else[],
 if u% 11=0 then[⟨1,7,(u% 8:Nat)⟩,⟨3,0,7⟩]else[],0,[],[],0,0⟩
def n2 (u:Nat) (p:fQ) (n:Nd):Nd:=
 let n1:=(gB n (u/4% 2*600:Nat) (oY (u% 1000))).1
 let a:=if u% 2=0 then(gB n1 (u% 90*10:Nat) p).1 else n1
 if u% 5=0 then(ki a (a.size+(u% 7*100:Nat))).1 else a
def wg.new (m:wg) (p:fQ) (n:Nd):wg:={m with es:=m.es++[⟨p,(m.ns.length:Int)⟩],ns:=m.ns++[n]}
def iw (m:wg) (u:Nat):wg:=
 match nG (m.hx.getD (u% m.hx.length) []) (j3.getD (u/7% 7) [])with
 |none=>m
 |some p=>
  if(fR m.es p).isSome then m
  else if u/3% 9<2 then {m.new p {mkNode u with kind:=1}with hx:=m.hx++[p]}
  else if u/3% 9=2/\0<m.files.length then {m with es:=m.es++[⟨p,(m.files.getD (u/2% m.files.length) 0:Nat)⟩]}
  else if u/3% 9=3 then m.new p {mkNode u with kind:=3,target:=[46,46,47]++p}
  else if u/3% 9=4 then m.new p {mkNode u with kind:=4,major:=(u% 300:Nat),minor:=(u/2% 300:Nat)}
  else if u/3% 9=5 then m.new p {mkNode u with kind:=6}
  else {m.new p (n2 u p (mkNode u))with files:=m.files++[m.ns.length]}
def mkRoot:Nd:=⟨1,493,0,0,9,[],[],0,[],[],0,0⟩
def mD:wg:=⟨[⟨[],0⟩],[mkRoot],[[]],[]⟩
def uO (l:List Nat):wg:=(l.take 25).foldl iw mD
def mkRaw (l:List Nat):fY:=⟨(uO l).es,(uO l).ns⟩
theorem wR (u:Nat):gT (mkNode u)=true:=by
 grind [Nat.mod_lt,uo,gT,mkNode,uJ,og,lk,jV,kQ,acLt,List.length_cons,List.length_nil]
theorem xh (u:Nat):fH (mkNode u)=true:=by
 have h:=wR u;unfold fH;rw[h];rfl
theorem NJ (u:Nat) (p:fQ):fH (n2 u p (mkNode u))=true:=by
 grind [mA,xh,oY,n2,fH,gB,mkNode,yd]
theorem Fb (u:Nat) (p:fQ) (n:Nd):(n2 u p n).kind=n.kind:=by
 grind [n2,CX,nc]
theorem Af (hm:gT n=true) (h:ib n=true/\jq n=true/\jG n=true) (hk:n.kind=1∨n.kind=6):fH n=true:=by
 grind [fH]
structure uS (m:wg):Prop where
 inr:∀e∈m.es,0<=e.node/\e.node<m.ns.length
 path:∀e∈m.es,gU e.path=true
 nd:(m.es.map (·.path)).Nodup
 root:⟨[],0⟩∈m.es/\gf m.ns 0=1
 par:∀e∈m.es,e.path≠[]->∃d∈m.es,d.path=oF e.path/\gf m.ns d.node=1
 hx:(∀d∈m.hx,∃e∈m.es,e.path=d/\gf m.ns e.node=1)/\m.hx≠[]
 node:∀n∈m.ns,fH n=true
 dir:∀e∈m.es,gf m.ns e.node=1->∀e'∈m.es,e'.node=e.node->e'=e
 files:∀f∈m.files,f<m.ns.length/\gf m.ns (f:Nat)=2
 used:∀i:Nat,i<m.ns.length->∃e∈m.es,e.node=i
 len:m.ns.length<=m.es.length
 dl:m.hx.length<=m.es.length/\m.files.length<=m.es.length
theorem Ga (h0:0<=k) (h:k<ns.length):gf (ns++[n]) k=gf ns k:=by
 grind [gf,List.getElem?_append_left]
theorem Pn:gf (ns++[n]) (ns.length:Int)=n.kind:=by
 grind [gf,Int.toNat_natCast,List.getElem?_append_right]
theorem MG (h:(fR l p).isSome=false):∀e∈l,e.path≠p:=by
 cases a:fR l p<;>grind [fR,p6]
theorem ym (h:(l.map (·.path)).Nodup) (a:∀x∈l,x.path≠e.path):((l++[e]).map (·.path)).Nodup:=by
 grind
theorem uS.new {m:wg} (h:uS m) {p:fQ} {n:Nd} (F:gU p=true) (B:∀e∈m.es,e.path≠p) (D:∃d∈m.es,d.path=oF p/\gf m.ns d.node=1) (E:fH n=true):uS (m.new p n)/\gf (m.new p n).ns (m.ns.length:Int)=n.kind:=by
 have hk:∀e∈m.es,gf (m.ns++[n]) e.node=gf m.ns e.node:=λe he=>Ga (h.inr e he).1 (h.inr e he).2
 have w:(m.ns++[n]).length=m.ns.length+1:=by simp
 refine⟨⟨λe he=>?_,λe he=>?_,ym h.nd B,⟨vL _ h.root.1,?_⟩,λe he y=>?_,⟨λd g=>?_,h.hx.2⟩,λx t=>?_,λe he v e' s C=>?_,λf u=>?_,λi hi=>?_,?_,?_⟩,Pn⟩
 ·show 0<=e.node/\e.node<((m.ns++[n]).length:Int)
  rw[w];rcases iK.1 he with he|he
  ·have:=h.inr e he;omega
  grind
 ·rcases iK.1 he with he|he
  ·exact h.path e he
  grind
 ·exact(hk _ h.root.1).trans h.root.2
 ·rcases iK.1 he with he|he
  ·obtain⟨d,g,h1,a⟩:=h.par e he y;exact⟨d,vL _ g,h1,(hk d g).trans a⟩
  ·obtain⟨d,g,h1,a⟩:=D;rw[kl.1 he];exact⟨d,vL _ g,h1,(hk d g).trans a⟩
 ·obtain⟨e,he,h1,a⟩:=h.hx.1 d g;exact⟨e,vL _ he,h1,(hk e he).trans a⟩
 ·rcases iK.1 t with t|t
  ·exact h.node x t
  grind
 ·have fW:∀x∈m.es,x.node≠(m.ns.length:Int):=λx t=>by have:=(h.inr x t).2;omega
  rcases iK.1 he with he|he
  ·rcases iK.1 s with s|s
   ·exact h.dir e he ((hk e he).symm.trans v) e' s C
   grind
  ·rcases iK.1 s with s|s<;>grind
 ·have:=h.files f u;exact⟨by show f<(m.ns++[n]).length;omega,(Ga fy fy).trans this.2⟩
 ·have hi:i<(m.ns++[n]).length:=hi
  by_cases he:i=m.ns.length
  ·exact⟨_,FA _ (kl.2 fx),by rw[he]⟩
  ·obtain⟨e,h1,a⟩:=h.used i fy;exact⟨e,vL _ h1,a⟩
 ·show(m.ns++[n]).length<=(m.es++[_]).length
  grind [len,List.length_append,List.length_singleton]
 ·show m.hx.length<=(m.es++[_]).length/\m.files.length<=(m.es++[_]).length
  grind [dl,List.length_append,List.length_singleton]
theorem uS.link {m:wg} (h:uS m) {k:Nat} (v:gU p=true) (t:∀e∈m.es,e.path≠p) (w:∃d∈m.es,d.path=oF p/\gf m.ns d.node=1) (hk:k<m.ns.length/\gf m.ns (k:Nat)=2):uS {m with es:=m.es++[⟨p,(k:Nat)⟩]}:=by
 refine⟨λe he=>?_,λe he=>?_,ym h.nd t,⟨vL _ h.root.1,h.root.2⟩,λe he s=>?_,⟨λd g=>?_,h.hx.2⟩,h.node,λe he n e' a u=>?_,h.files,λi hi=>?_,?_,?_⟩
 ·rcases iK.1 he with he|he
  ·exact h.inr e he
  grind
 ·rcases iK.1 he with he|he
  ·exact h.path e he
  grind
 ·rcases iK.1 he with he|he
  ·obtain⟨d,g,h1,f⟩:=h.par e he s
   grind
  grind
 ·obtain⟨e,he,h1,f⟩:=h.hx.1 d g
  grind
 ·rcases iK.1 he with he|he
  ·rcases iK.1 a with a|a
   ·exact h.dir e he n e' a u
   grind
  grind
 ·obtain⟨e,h1,f⟩:=h.used i hi
  grind
 ·grind [len,List.length_append,List.length_singleton]
 grind [dl,List.length_append,List.length_singleton]
theorem NO {m:wg} (h:uS m) (u:Nat):uS (iw m u):=by
 unfold iw;split
 ·exact h
 ·rename_i p x;obtain⟨a,E,y,F,_⟩:=rj x
  have g:m.hx.getD (u% m.hx.length) []∈m.hx:=by
   have fW:u% m.hx.length<m.hx.length:=u0 _ (tE.2 h.hx.2);rw[kv,kp fW];exact xd fW
  have v:∃d∈m.es,d.path=oF p/\gf m.ns d.node=1:=by rw[y];exact h.hx.1 _ g
  have w:=wR u;split
  ·exact h
  rename_i s;have t:=MG (Bool.eq_false_iff.2 s);split
  ·obtain⟨g1,g2⟩:=h.new (n:={mkNode u with kind:=1}) a t v (Af w ⟨rfl,rfl,rfl⟩ (.inl rfl));refine⟨g1.inr,g1.path,g1.nd,g1.root,g1.par,⟨λd g=>?_,by simp⟩,g1.node,g1.dir,g1.files,g1.used,g1.len,?_⟩
   ·rcases iK.1 g with g|g
    ·exact g1.hx.1 d g
    ·rw[kl.1 g];exact⟨_,FA _ (kl.2 fx),rfl,g2⟩
   ·have:=h.dl;show(m.hx++[p]).length<=(m.es++[_]).length/\m.files.length<=(m.es++[_]).length
    grind
  split
  ·rename_i hk;refine h.link a t v (h.files _ ?_)
   grind [List.length,Nat.mod_lt,List.getElem?_eq_getElem,List.getElem_mem]
  split
  ·refine(h.new a t v ?_).1;have C:=lr a;have D:=Uz a;unfold fH;rw[show gT {mkNode u with kind:=3,target:=[46,46,47]++p}=true from w];simp only[iU];rw[if_neg fV,if_neg fV,if_pos trivial];simp only[iO,decide_eq_true_eq,lj,hQ,iA,kh];refine⟨⟨⟨⟨rfl,rfl⟩,fy⟩,fy⟩,λc hc=>?_⟩
   grind
  split
  ·refine(h.new a t v ?_).1;have h1:u% 300<300:=fy;have B:u/2% 300<300:=fy;unfold fH;rw[show gT {mkNode u with kind:=4,major:=(u% 300:Nat),minor:=(u/2% 300:Nat)}=true from w];simp only[iU];rw[if_neg fV,if_neg fV,if_neg fV,if_pos (.inl trivial)];simp only[iO,decide_eq_true_eq];exact⟨⟨⟨⟨⟨rfl,rfl⟩,fy⟩,fy⟩,fy⟩,fy⟩
  split
  ·exact(h.new (n:={mkNode u with kind:=6}) a t v (Af w ⟨rfl,rfl,rfl⟩ (.inr fx))).1
  obtain⟨g1,g2⟩:=h.new a t v (NJ u p);refine⟨g1.inr,g1.path,g1.nd,g1.root,g1.par,g1.hx,g1.node,g1.dir,λf s=>?_,g1.used,g1.len,?_⟩
  ·rcases iK.1 s with s|s
   ·exact g1.files f s
   ·rw[kl.1 s];exact⟨by show m.ns.length<(m.ns++[_]).length;simp,by rw[g2,Fb];rfl⟩
  ·have:=h.dl;show m.hx.length<=(m.es++[_]).length/\(m.files++[_]).length<=(m.es++[_]).length
   grind
theorem B6:uS mD:=by
 have h0:∀e∈mD.es,e=⟨[],0⟩:=λe he=>kl.1 he
 refine⟨λe he=>?_,λe he=>?_,by decide,⟨kl.2 fx,rfl⟩,λe he a=>?_,⟨λd g=>?_,by decide⟩,λn t=>?_,λe he _ e' m _=>?_,λf s=>(by cases s),λi hi=>?_,by decide,by decide⟩
 ·rw[h0 e he];decide
 ·rw[h0 e he];rfl
 ·rw[h0 e he]at a;exact absurd rfl a
 ·rw[show d=[]from kl.1 g];exact⟨_,kl.2 rfl,rfl,rfl⟩
 ·rw[show n=mkRoot from kl.1 t];decide
 ·rw[h0 e he,h0 e' m]
 ·have hi:i<1:=hi;obtain rfl:i=0:=fy;exact⟨_,kl.2 fx,rfl⟩
theorem IM (m:wg) (u:Nat):(iw m u).es.length<=m.es.length+1:=by
 unfold iw;split
 ·omega
 ·repeat' split
  all_goals first|omega|(show(m.es++[_]).length<=_;simp)
theorem Jw:∀(l:List Nat) (m:wg),uS m->uS (l.foldl iw m)/\(l.foldl iw m).es.length<=m.es.length+l.length
 |[],m,h=>⟨h,gJ _⟩
 |u::l,m,h=>by
  obtain⟨h1,a⟩:=Jw l (iw m u) (NO h u)
  grind [IM,List.length_cons]
theorem Aw (l:List Nat):uS (uO l)/\(uO l).es.length<=26:=by
 obtain⟨h1,a⟩:=Jw (l.take 25) mD B6;refine⟨h1,mn a ?_⟩
 grind [List.length_take,List.length,mD]
theorem uS.adJ {m:wg} (h:uS m) (a:m.es.length<=100):sT ⟨m.es,m.ns⟩:=by
 refine⟨h.inr,a,h.path,h.nd,⟨_,h.root.1,rfl,h.root.2⟩,h.par,λe he=>?_,h.dir⟩;have hi:=h.inr e he;have fW:e.node.toNat<m.ns.length:=fy;show fH (m.ns.getD e.node.toNat default)=true
 rw[kv,kp fW];exact h.node _ (xd fW)
def Oi (l:List Nat):fY:=jw (uO l).ns (jR (uO l).es)
theorem zD (l:List Nat):hN (mkRaw l)=some (Oi l):=wA ((Aw l).1.adJ (by grind [Aw]))
theorem Ek (l:List Nat):gQ (Oi l)=true:=yA (zD l)
end
section
theorem AI (h:hN t=some u):∃F:List Int,u.es.Perm (t.es.map (oA F))/\u.ns=F.map (λk=>t.ns.getD k.toNat default)/\∀e∈t.es,e.node∈F:=by
 obtain⟨h1,a,rfl⟩:=vX h;have d:=jg t.es;refine⟨(iB [] (jR t.es)).2,?_,rfl,by grind [pJ]⟩;show(iB [] (jR t.es)).1.Perm _
 grind [ry]
theorem MW (h:hN t=some u) (he:e∈t.es):∃k:Nat,fR u.es e.path=some (k:Int)/\u.ns[k]? =some (t.ns.getD e.node.toNat default):=by
 grind [AI,oA,List.mem_map_of_mem,jv,CD,pC,yA,Sd]
theorem E4 (h:hN t=some u) (f:∀e∈t.es,e.path≠p):fR u.es p=none:=by
 obtain⟨F,h1,_,_⟩:=AI h;cases d:fR u.es p with
 |none=>rfl
 |some k=>
  obtain⟨e',a,g,_⟩:=hB d;obtain⟨e,he,rfl⟩:=lN.1 (h1.mem_iff.1 a);exact absurd g (f e he)
theorem FV (h:hN t=some u):u.es.length=t.es.length:=by
 grind [AI,List.Perm.length_eq,List.length_map]
theorem HJ (r:fQ):∀a:fQ,hg (a++47::r)=hg a++hg r
 |[]=>by grind [hg]
 |c::a=>by
  have d:=HJ r a
  grind [hg,absurd,kK]
theorem BN:∀(l z:List fQ),l≠[]->z≠[]->je (l++z)=je l++47::je z
 |[],_,h,_=>absurd rfl h
 |[x],z,_,a=>zX x a
 |x::y::r,z,_,a=>by
  rw[qp,qp,je,←qp,BN (y::r) z ir a,je];simp
theorem Mo {top:fQ} (hs:gU s=true) (ht:gU top=true):EF s top=true↔fZ top<+:fZ s:=by
 unfold EF;rw[hs,ht];simp only[iU,tK,decide_eq_true_eq];constructor
 ·rintro((h|h)|h)
  ·grind [kx]
  ·grind
  ·obtain⟨r,d⟩:=Wq.1 h
   by_cases h0:top=[]
   ·grind [kx]
   ·have g:s=top++47::r:=by rw[←d];simp
    simp_all [ig,HJ]
 ·rintro⟨z,f⟩
  by_cases h0:top=[]
  ·grind
  by_cases h1:z=[]
  ·grind [Cu]
  ·right;rw[Wq];have a:fZ top≠[]:=by rw[ig ht h0];exact kK _
   have:=ky hs;rw[←f,BN _ _ a h1,ky ht]at this;exact⟨je z,by rw[←this];simp⟩
theorem F0 (hu:gU (oF s)=true) (_:gU s=true):fZ (oF s)=(fZ s).dropLast:=by
 by_cases h0:(fZ s).dropLast=[]
 ·have:oF s=[]:=by unfold oF;rw[h0];rfl
  grind [kx]
 ·have d:∀x∈(fZ s).dropLast,x∈fZ s:=by grind [List.dropLast_sublist]
  have m:∀x∈(fZ s).dropLast,(47:UInt8)∉x:=λx f=>Fl (ou (d x f))
  have g:oF s≠[]:=by
   unfold oF;intro e;cases a:(fZ s).dropLast with
   |nil=>exact h0 a
   |cons x r=>
    have f:=Ax (ou (s:=s) (d x (by rw[a];simp)):jM x=true);rw[a]at e;cases r<;>simp_all [je]
  grind [ig,oF,Ag]
theorem Hc {α:Type} {a b:List α} (h:a<+:b) (d:a≠b):a<+:b.dropLast:=by
 obtain⟨z,rfl⟩:=h
 grind
theorem Ud {vb:List fQ} (a:gU p=true) (hu:gU (oF p)=true) (ht:∀q∈vb,gU q=true) (h0:p≠[]) (h:vi vb p=true):vi vb (oF p)=true:=by
 grind [vi,List.any_eq_true,absurd,Mo,F0,fZ,List.dropLast_prefix,Hc]
theorem MF {vb:List fQ} (h:gQ t=true) (ht:∀q∈vb,gU q=true):sT ⟨t.es.filter (λe=>vi vb e.path),t.ns⟩:=by
 have a:=oh h;have hm:∀{e:En},e∈t.es.filter (λe=>vi vb e.path)↔e∈t.es/\vi vb e.path=true:=HD;refine⟨λe he=>a.inr e (hm.1 he).1,mn fS a.len,λe he=>a.path e (hm.1 he).1,?_,?_,λe he n=>?_,λe he=>a.node e (hm.1 he).1,λe he hk e' u v=>a.dir e (hm.1 he).1 hk e' (hm.1 u).1 v⟩
 ·exact a.nd.sublist (QH.map _)
 ·obtain⟨e,he,h1,f⟩:=a.root;exact⟨e,hm.2 ⟨he,by rw[h1];rfl⟩,h1,f⟩
 ·obtain⟨h1,f⟩:=hm.1 he;obtain⟨d,m,g,s⟩:=a.par e h1 n;refine⟨d,hm.2 ⟨m,?_⟩,g,s⟩;rw[g];exact Ud (a.path e h1) (g▸a.path d m) ht n f
theorem CM {n:Nat}:∀(a b:List En) (u:Nat),jz n u (a++b)=(jz n u a&&jz n (kE u a) b)
 |[],b,u=>by simp[jz,kE]
 |e::a,b,u=>by
  rw[qp,jz,jz,CM a b,kE]
  grind
theorem BX (h:gQ t=true):kE 0 t.es=t.ns.length:=by
 grind [gQ,jB]
theorem Tn (hm:gU p=true) (hu:gU (oF p)=true) (h0:fZ p≠[]):nG (oF p) (mO p)=some p:=by
 obtain⟨l,x,a⟩:∃l x,fZ p=l++[x]:=⟨_,_,(Lx h0).symm⟩;have t:mO p=x:=by unfold mO;rw[a];simp
 have s:jM x=true:=by grind [ou]
 have d:(fZ p).dropLast=l:=by rw[a,BR]
 have n:qO (oF p) x=p:=by
  have g:=ky hm;have m:=F0 hu hm;rw[d]at m;unfold qO
  by_cases f:l=[]
  ·have:oF p=[]:=by unfold oF;rw[d,f];rfl
   rw[if_pos this,←g,a,f];rfl
  ·grind [oF,kx,je,pN]
 grind [nG,Bool.and_self]
theorem D2 (l:List Nat):(Oi l).es.length<=26:=by
 rw[FV (zD l)];exact(Aw l).2
end
section
def jT (t:fY):Nat->Option fQ->Int->Int
 |0,_,bad=>bad
 |_+1,none,bad=>bad
 |f+1,some q,bad=>match fR t.es q with
  |some k=>if(t.ns.getD k.toNat default).kind=1 then jT t f (iL q) bad else 9
  |none=>jT t f (iL q) 7
def ja (t:fY) (p:fQ):Int:=if gU p then jT t (p.length+1) (iL p) 0 else 1
def hC (t:fY) (p:fQ):Int×Int:=
 if ja t p≠0 then(0,ja t p)else match fR t.es p with
  |none=>(0,7)
  |some k=>(k,0)
end
section
theorem SK {q:fQ} (h:fZ q≠[]):(oF q).length<q.length:=by
 grind [kx,List.length,List.length_pos_iff,HA,List.length_take]
theorem Fi {q r:fQ} (h:iL q=some r):r.length<q.length:=by
 grind [iL,Option.some.inj,SK]
end
section
def R4 {α:Type} (v:Value) (l:List α) (b:Nat):Prop:=0<l.length/\v.ownBlock=some b
theorem Rw.A4 {α:Type} {a:α->List Value} {S:Nat->Prop} {w w':World} {v:Value} {l:List α} (h:Rw a w v l) (d:Fr S w w') (s:∀b,R4 v l b->¬S b):Rw a w' v l:=by
 obtain⟨A,c,rfl,h1,f,g⟩:=h;refine⟨A,c,rfl,h1,f,λh0=>?_⟩;obtain⟨b,o,rfl,m,n⟩:=g h0;exact⟨b,o,rfl,uY m d.size,λj u hu=>d.cell (n j u hu) (s b ⟨h0,rfl⟩)⟩
theorem Rw.J1 {α:Type} {d:α->List Value} {w:World} {v:Value} {l:List α} (h:Rw d w v l) {b:Nat} (a:R4 v l b):b<w.heap.size:=by
 obtain⟨A,c,rfl,h1,g,f⟩:=h;obtain⟨b',o,rfl,m,_⟩:=f a.1;have:b'=b:=jk a.2;omega
def Yh (x:gG) (b:Nat):Prop:=R4 x.va x.n.attrs b∨R4 x.vc x.n.acl b∨R4 x.vd x.n.data b
def RW (ve vn:Value) (fK:List gG) (t:fY) (b:Nat):Prop:=R4 ve t.es b∨R4 vn fK b∨∃x∈fK,Yh x b
theorem nj.A4 {S:Nat->Prop} {w w':World} {ve vn:Value} {fK:List gG} {t:fY} (h:nj w ve vn fK t) (s:Fr S w w') (u:∀b,RW ve vn fK t b->¬S b):nj w' ve vn fK t:=
 ⟨h.e.A4 s λb f=>u b (.inl f),h.n.A4 s λb f=>u b (.inr (.inl f)),λx g=>⟨(h.i x g).a.A4 s λb f=>u b (.inr (.inr ⟨x,g,.inl f⟩)),(h.i x g).c.A4 s λb f=>u b (.inr (.inr ⟨x,g,.inr (.inl f)⟩)),(h.i x g).d.A4 s λb f=>u b (.inr (.inr ⟨x,g,.inr (.inr f)⟩))⟩,h.m⟩
theorem ix.J1 {w:World} {x:gG} (h:ix w x) {b:Nat} (f:Yh x b):b<w.heap.size:=by
 rcases f with f|f|f
 ·exact h.a.J1 f
 ·exact h.c.J1 f
 ·exact h.d.J1 f
theorem nj.J1 {w:World} {ve vn:Value} {fK:List gG} {t:fY} (h:nj w ve vn fK t) {b:Nat} (a:RW ve vn fK t b):b<w.heap.size:=by
 rcases a with a|a|⟨x,d,a⟩
 ·exact h.e.J1 a
 ·exact h.n.J1 a
 ·exact(h.i x d).J1 a
theorem ix.A4 {S:Nat->Prop} {w w':World} {x:gG} (h:ix w x) (g:Fr S w w') (m:∀b,Yh x b->¬S b):ix w' x:=
 ⟨h.a.A4 g λb f=>m b (.inl f),h.c.A4 g λb f=>m b (.inr (.inl f)),h.d.A4 g λb f=>m b (.inr (.inr f))⟩
end
section
variable {hs:List Nat} {H:World->Prop} {full:Array Oper} {K:Env->World->Prop} {rest:List Oper} {env:Env} {w:World} {d:Tmp} {ty:TypeId} {pos:String} {af:Array Edge}
theorem SS {P:Program} {w:World} {A:Option Addr} {n c:Nat} {xs:List Int} {src e dst:TypeId} (hu:P.underlying src=some (.slice e)) (he:P.underlying e=some (.int .u8)) (g:P.underlying dst=some .string) (t:WU w (.slice A n c) xs):
  (convert src dst (.slice A n c)).run P w= .ok (.string (strOfNums xs)) w:=by
 obtain⟨v,x,d,_,_,s⟩:=t;injection d with d f m
 subst d;subst m;rcases xE xs.length with h0|h0
 ·have u:xs=[]:=zf h0;subst u;cases A with
  |none=>rw[f,run_convert_bytes_nil w src e hu he _ _ dst g];rfl
  |some a=>
   rw[f,run_convert_bytes_string w src dst e _ _ _ hu he g];simp[Conv.bytesToString,loadCells,loadCellsFrom];rfl
 ·obtain⟨b,o,rfl,_,hc⟩:=s h0;refine run_convert_bytes_arg w src e hu he b o n c xs f.symm (λi hi=>?_) dst g;exact hc i _ (by rw[qX,kp fy,kv,kp fy];rfl)
theorem adH {x:Operand} {A:Option Addr} {n c:Nat} {zs:List Int} (a:gh env x=some (.slice A n c)) (m:WU w (.slice A n c) zs)
  (h:xs prog fD fC hs H full K rest ((d,.string (strOfNums zs))::env) w) (hm:nK hs (some d)=false:=by rfl):xs prog fD fC hs H full K (⟨some d,.convert 86 9 x,ty,pos,af,none⟩::rest) env w:=by
 refine gR fx (by simp[fX,Op.operands,a]) ?_
 have g:iT fD fC hs ⟨some d,.convert 86 9 x,ty,pos,af,none⟩= .r:=by
  have h1:fD 86=false:=by kernel_rfl
  have f:fC 9=true:=by kernel_rfl
  simp[iT,cls,h1,f,hm]
 rw[g];exact⟨.string (strOfNums zs),by simp[execOp,fM a,SS underlying86 underlying5 underlying9 m],h⟩
end
end Go.Proofs.YtecaahegomdbbaaGreatDoor.gp
namespace Go.Proofs.YtecaahegomdbbaaGreatDoor
open Go.Proofs.Tryz
open Go.Shelf
def Np:Go.Shelf.Ren:=⟨λ|6=>160|15=>228|14=>227|28=>282|29=>283|20=>274|21=>275|22=>276|23=>277|24=>278|25=>279|26=>280|27=>281|46=>314|47=>315|48=>316|49=>317|50=>318|57=>355|n=>n,λ|22=>154|24=>157|25=>228|3=>3|39=>50|0=>0|53=>120|55=>126|4=>4|46=>341|45=>340|50=>64|5=>5|9=>9|66=>367|70=>371|76=>401|77=>92|n=>n,λ|n=>n⟩
theorem Z8:Go.Proofs.SlLaysF.n6 prog Np:={
 mixed:=by kernel_rfl
 f6:=⟨f160.name,by decide,func160.trans (congrArg some fF)⟩
 f14:=⟨f227.name,by decide,func227.trans (congrArg some fF)⟩
 f15:=func228.trans (congrArg some fF)
 f20:=⟨f274.name,by decide,func274.trans (congrArg some fF)⟩
 f21:=⟨f275.name,by decide,func275.trans (congrArg some fF)⟩
 f22:=⟨f276.name,by decide,func276.trans (congrArg some fF)⟩
 f23:=⟨f277.name,by decide,func277.trans (congrArg some fF)⟩
 f24:=⟨f278.name,by decide,func278.trans (congrArg some fF)⟩
 f25:=⟨f279.name,by decide,func279.trans (congrArg some fF)⟩
 f26:=⟨f280.name,by decide,func280.trans (congrArg some fF)⟩
 f27:=⟨f281.name,by decide,func281.trans (congrArg some fF)⟩
 f28:=func282.trans (congrArg some fF)
 f29:=func283.trans (congrArg some fF)
 f46:=⟨f314.name,by decide,func314.trans (congrArg some fF)⟩
 f47:=func315.trans (congrArg some fF)
 f48:=func316.trans (congrArg some fF)
 f49:=⟨f317.name,by decide,func317.trans (congrArg some fF)⟩
 f50:=⟨f318.name,by decide,func318.trans (congrArg some fF)⟩
 f57:=⟨f355.name,by decide,func355.trans (congrArg some fF)⟩
 t0:=underlying0
 a0:=Tryz.isAgg0
 z0:=Tryz.sizeOf0
 v0:=Tryz.zeroValue0
 t3:=underlying3
 a3:=Tryz.isAgg3
 z3:=Tryz.sizeOf3
 v3:=Tryz.zeroValue3
 t4:=underlying4
 a4:=Tryz.isAgg4
 z4:=Tryz.sizeOf4
 v4:=Tryz.zeroValue4
 t5:=underlying5
 a5:=Tryz.isAgg5
 z5:=Tryz.sizeOf5
 v5:=Tryz.zeroValue5
 t9:=underlying9
 a9:=Tryz.isAgg9
 z9:=Tryz.sizeOf9
 v9:=Tryz.zeroValue9
 t22:=underlying154
 a22:=Tryz.isAgg154
 z22:=Tryz.sizeOf154
 v22:=Tryz.zeroValue154
 a24:=Tryz.isAgg157
 z24:=Tryz.sizeOf157
 t25:=underlying228
 a25:=Tryz.isAgg228
 z25:=Tryz.sizeOf228
 v25:=Tryz.zeroValue228
 t39:=underlying50
 a39:=Tryz.isAgg50
 z39:=Tryz.sizeOf50
 v39:=Tryz.zeroValue50
 t45:=underlying340
 a45:=Tryz.isAgg340
 z45:=Tryz.sizeOf340
 v45:=Tryz.zeroValue340
 t46:=underlying341
 a46:=Tryz.isAgg341
 z46:=Tryz.sizeOf341
 v46:=Tryz.zeroValue341
 t50:=underlying64
 a50:=Tryz.isAgg64
 z50:=Tryz.sizeOf64
 v50:=Tryz.zeroValue64
 t53:=underlying120
 a53:=Tryz.isAgg120
 z53:=Tryz.sizeOf120
 v53:=Tryz.zeroValue120
 t55:=underlying126
 a55:=Tryz.isAgg126
 z55:=Tryz.sizeOf126
 v55:=Tryz.zeroValue126
 t66:=underlying367
 a66:=Tryz.isAgg367
 z66:=Tryz.sizeOf367
 v66:=Tryz.zeroValue367
 t70:=underlying371
 a70:=Tryz.isAgg371
 z70:=Tryz.sizeOf371
 v70:=Tryz.zeroValue371
 t76:=underlying401
 a76:=Tryz.isAgg401
 z76:=Tryz.sizeOf401
 v76:=Tryz.zeroValue401
 t77:=underlying92
 a77:=Tryz.isAgg92
 z77:=Tryz.sizeOf92
 v77:=Tryz.zeroValue92}
end Go.Proofs.YtecaahegomdbbaaGreatDoor
namespace Go.Proofs.YtecaahegomdbbaaGreatDoor
open Go.Proofs.Tryz
namespace gp.Wr
variable {x:Int} {l:List hJ}
def qz:List hJ->Int->Option UInt8
 |[],_=>none
 |p::r,x=>if p.pos<=x/\x<gO p then p.data[(x-p.pos).toNat]? else qz r x
theorem mI {p:hJ} (h:p.pos<=x/\x<gO p):∃b,p.data[(x-p.pos).toNat]? =some b:=by
 unfold gO at h;exact⟨_,kp fy⟩
theorem L3:∀(a b:List hJ) (x:Int),qz (a++b) x=(qz a x).or (qz b x)
 |[],b,x=>rfl
 |p::a,b,x=>by
  rw[qp,qz,qz,L3 a b x]
  grind [mI]
theorem pL:qz l x=none↔∀p∈l,¬(p.pos<=x/\x<gO p):=by
 induction l<;>grind [qz,mI,reduceCtorEq,List.mem_cons_self,List.mem_cons_of_mem]
theorem Hv:∀(l:List hJ) (lo hi x:Int),qz (gW l lo hi) x=if lo<=x/\x<hi then qz l x else none
 |[],lo,hi,x=>by simp[gW,qz]
 |p::r,lo,hi,x=>by
  have a:=Hv r lo hi x
  grind [gW,qz,max,min,gO,mP,List.length_take,List.length_drop]
theorem zT:∀(r:List hJ) (c:hJ) (x:Int),qz (lS c r) x=qz (c::r) x
 |[],c,x=>rfl
 | p::r,c,x=>by
  rw[lS];split
  ·rename_i h;rw[zT r,qz,qz,qz]
   grind [gO,List.length_append,Int.natCast_add,List.length,List.getElem?_append_left,List.getElem?_append_right]
  ·rw[qz,qz,zT r p x]
theorem Iz (l:List hJ) (x:Int):qz (jC l) x=qz l x:=by
 cases l<;>grind [jC,zT]
theorem I1 {pos:Int} {s:fQ} (h:∀p∈l,0<=p.pos/\gO p<=1099511627776) (x:Int):qz (qN l pos s) x=if pos<=x/\x<pos+(s.length:Int)then s[(x-pos).toNat]? else qz l x:=by
 grind [qN,Iz,L3,Hv,qz,gO,List.length,mI,pL]
theorem XM (hs:js 1 l) {q:hJ} (hq:q∈l) (a:q.pos<=x/\x<gO q):qz l x=q.data[(x-q.pos).toNat]? :=by
 induction l<;>grind [js,List.pairwise_cons,qz]
abbrev mr:=Nat×Nat
def tp (l:List mr) (x:Nat):Prop:=∃p∈l,p.1<=x/\x<p.1+p.2
def GL (l:List mr):Prop:=l.Pairwise λp q=>p.1+p.2<q.1
def Bm (l:List mr):Prop:=l.Pairwise λp q=>p.1<=q.1
def Jv (l:List mr):Prop:=∀p∈l,0<p.2
def xy:mr->List mr->List mr
 |c,[]=>[c]
 |c,z::r=>if c.1+c.2<z.1 then c::xy z r else xy (c.1,max (c.1+c.2) (z.1+z.2)-c.1) r
def FK:List mr->List mr
 |[]=>[]
 |z::r=>xy z r
theorem vK:∀(r:List mr) (c:mr),Bm (c::r)->Jv (c::r)->GL (xy c r)/\Jv (xy c r)/\(∀x,tp (xy c r) x↔tp (c::r) x)/\∀q∈xy c r,c.1<=q.1
 |[],c,_,h=>by grind [xy,GL,List.mem_singleton]
 | z::r,c,a,h=>by
  unfold Bm at a;rw[jr,jr]at a;obtain⟨h1,f,g⟩:=a;have m:=h1 z jQ;have d:=h c jQ;have s:=h z ir;rw[xy];split
  ·rename_i fW;obtain⟨g1,g2,g3,g4⟩:=vK r z (by grind [Bm,List.pairwise_cons]) (λq hq=>h q fS);refine⟨?_,?_,λx=>?_,?_⟩
   ·grind [GL,List.pairwise_cons]
   ·intro q hq;rcases hX.1 hq with rfl|hq
    ·exact d
    ·exact g2 q hq
   ·simp_all [tp,hX,jQ,qe]
   grind
  ·rename_i n
   obtain⟨g1,g2,g3,g4⟩:=vK r (c.1,max (c.1+c.2) (z.1+z.2)-c.1) (by
    grind [Bm,List.pairwise_cons,List.mem_cons_of_mem]) (λq hq=>by
    rcases hX.1 hq with rfl|hq
    ·dsimp only;omega
    ·exact h q (by simp[hq]))
   grind [tp,List.mem_cons_self,List.mem_cons_of_mem]
theorem Mh {l:List mr} (f:Bm l) (h:Jv l):GL (FK l)/\Jv (FK l)/\∀x,tp (FK l) x↔tp l x:=by
 cases l with
 |nil=>exact⟨List.Pairwise.nil,(λq hq=>by cases hq),λx=>Iff.rfl⟩
 |cons z r=>obtain⟨h1,a,d,_⟩:=vK r z f h;exact⟨h1,a,d⟩
theorem AE:∀(a b:List mr),GL a->GL b->Jv a->Jv b->(∀x,tp a x↔tp b x)->a=b
 |[],[],_,_,_,_,_=>rfl
 |[],q::b,_,_,_,t,hc=>by
  obtain⟨p,B,_⟩:=(hc q.1).2 ⟨q,jQ,gJ _,by have:=t q jQ;omega⟩;cases B
 |p::a,[],_,_,s,_,hc=>by
  obtain⟨q,hq,_⟩:=(hc p.1).1 ⟨p,jQ,gJ _,by have:=s p jQ;omega⟩;cases hq
 | p::a,q::b,g,m,s,t,hc=>by
  unfold GL at g m;rw[jr]at g m;have D:=s p jQ;have E:=t q jQ
  have low:∀(p:mr) (a:List mr),(∀r∈a,p.1+p.2<r.1)->∀x,tp (p::a) x->p.1<=x:=λp a h x ⟨r,d,n⟩=>by
   grind
  have w:p.1=q.1:=by
   have h1:=low q b m.1 p.1 ((hc p.1).1 ⟨p,jQ,gJ _,fy⟩);have C:=low p a g.1 q.1 ((hc q.1).2 ⟨q,jQ,gJ _,fy⟩);omega
  have out:∀(p:mr) (a:List mr),(∀r∈a,p.1+p.2<r.1)->¬tp (p::a) (p.1+p.2):=λp a h ⟨r,d,n⟩=>by
   grind
  have y:p.2=q.2:=by
   rcases zy p.2 q.2 with h|h|h
   ·exact absurd ((hc (p.1+p.2)).2 ⟨q,jQ,fy,by omega⟩) (out p a g.1)
   ·exact h
   ·exact absurd ((hc (q.1+q.2)).1 ⟨p,jQ,fy,by omega⟩) (out q b m.1)
  have e:p=q:=Prod.ext w y;subst e
  congr 1
  refine AE a b g.2 m.2 (λr d=>s r fS) (λr d=>t r fS) λx=>?_
  constructor
  ·rintro⟨r,d,n⟩;have h1:=g.1 r d;obtain⟨v,f,u⟩:=(hc x).1 ⟨r,fS,n⟩;rcases hX.1 f with rfl|f
   ·omega
   ·exact⟨v,f,u⟩
  ·rintro⟨r,d,n⟩;have h1:=m.1 r d;obtain⟨v,f,u⟩:=(hc x).2 ⟨r,fS,n⟩;rcases hX.1 f with rfl|f
   ·omega
   ·exact⟨v,f,u⟩
end gp.Wr
end Go.Proofs.YtecaahegomdbbaaGreatDoor
namespace Go.Proofs.YtecaahegomdbbaaGreatDoor
open Go.Proofs.Tryz
open Go.Shelf
def Nu:Go.Shelf.Ren:=⟨λ|6=>237|15=>228|14=>287|28=>282|29=>283|20=>322|21=>323|22=>324|23=>325|24=>326|25=>327|26=>328|27=>329|46=>359|47=>315|48=>316|49=>360|50=>361|57=>390|n=>n,λ|22=>31|24=>68|25=>297|3=>3|39=>50|0=>0|53=>120|55=>126|4=>4|46=>341|45=>340|50=>64|5=>5|9=>9|66=>367|70=>371|76=>401|77=>92|n=>n,λ|n=>n⟩
theorem U2:Go.Proofs.SlLaysF0.n6 prog Nu:={
 mixed:=by kernel_rfl
 f6:=⟨f237.name,by decide,func237.trans (congrArg some fF)⟩
 f14:=⟨f287.name,by decide,func287.trans (congrArg some fF)⟩
 f15:=func228.trans (congrArg some fF)
 f20:=⟨f322.name,by decide,func322.trans (congrArg some fF)⟩
 f21:=⟨f323.name,by decide,func323.trans (congrArg some fF)⟩
 f22:=⟨f324.name,by decide,func324.trans (congrArg some fF)⟩
 f23:=⟨f325.name,by decide,func325.trans (congrArg some fF)⟩
 f24:=⟨f326.name,by decide,func326.trans (congrArg some fF)⟩
 f25:=⟨f327.name,by decide,func327.trans (congrArg some fF)⟩
 f26:=⟨f328.name,by decide,func328.trans (congrArg some fF)⟩
 f27:=⟨f329.name,by decide,func329.trans (congrArg some fF)⟩
 f28:=func282.trans (congrArg some fF)
 f29:=func283.trans (congrArg some fF)
 f46:=⟨f359.name,by decide,func359.trans (congrArg some fF)⟩
 f47:=func315.trans (congrArg some fF)
 f48:=func316.trans (congrArg some fF)
 f49:=⟨f360.name,by decide,func360.trans (congrArg some fF)⟩
 f50:=⟨f361.name,by decide,func361.trans (congrArg some fF)⟩
 f57:=⟨f390.name,by decide,func390.trans (congrArg some fF)⟩
 t0:=underlying0
 a0:=Tryz.isAgg0
 z0:=Tryz.sizeOf0
 v0:=Tryz.zeroValue0
 t3:=underlying3
 a3:=Tryz.isAgg3
 z3:=Tryz.sizeOf3
 v3:=Tryz.zeroValue3
 t4:=underlying4
 a4:=Tryz.isAgg4
 z4:=Tryz.sizeOf4
 v4:=Tryz.zeroValue4
 t5:=underlying5
 a5:=Tryz.isAgg5
 z5:=Tryz.sizeOf5
 v5:=Tryz.zeroValue5
 t9:=underlying9
 a9:=Tryz.isAgg9
 z9:=Tryz.sizeOf9
 v9:=Tryz.zeroValue9
 t22:=underlying31
 a22:=Tryz.isAgg31
 z22:=Tryz.sizeOf31
 v22:=Tryz.zeroValue31
 t25:=underlying297
 a25:=Tryz.isAgg297
 z25:=Tryz.sizeOf297
 v25:=Tryz.zeroValue297
 t39:=underlying50
 a39:=Tryz.isAgg50
 z39:=Tryz.sizeOf50
 v39:=Tryz.zeroValue50
 t45:=underlying340
 a45:=Tryz.isAgg340
 z45:=Tryz.sizeOf340
 v45:=Tryz.zeroValue340
 t46:=underlying341
 a46:=Tryz.isAgg341
 z46:=Tryz.sizeOf341
 v46:=Tryz.zeroValue341
 t50:=underlying64
 a50:=Tryz.isAgg64
 z50:=Tryz.sizeOf64
 v50:=Tryz.zeroValue64
 t53:=underlying120
 a53:=Tryz.isAgg120
 z53:=Tryz.sizeOf120
 v53:=Tryz.zeroValue120
 t55:=underlying126
 a55:=Tryz.isAgg126
 z55:=Tryz.sizeOf126
 v55:=Tryz.zeroValue126
 t66:=underlying367
 a66:=Tryz.isAgg367
 z66:=Tryz.sizeOf367
 v66:=Tryz.zeroValue367
 t70:=underlying371
 a70:=Tryz.isAgg371
 z70:=Tryz.sizeOf371
 v70:=Tryz.zeroValue371
 t76:=underlying401
 a76:=Tryz.isAgg401
 z76:=Tryz.sizeOf401
 v76:=Tryz.zeroValue401
 t77:=underlying92
 a77:=Tryz.isAgg92
 z77:=Tryz.sizeOf92
 v77:=Tryz.zeroValue92}
end Go.Proofs.YtecaahegomdbbaaGreatDoor
namespace Go.Proofs.YtecaahegomdbbaaGreatDoor
open Go.Proofs.Tryz
open Go.Shelf
def MV:Go.Shelf.Ren:=⟨λ|6=>240|15=>228|14=>289|28=>282|29=>283|20=>330|21=>331|22=>332|23=>333|24=>334|25=>335|26=>336|27=>337|46=>362|47=>315|48=>316|49=>363|50=>364|57=>391|n=>n,λ|22=>32|24=>70|25=>289|3=>3|39=>50|0=>0|53=>120|55=>126|4=>4|46=>341|45=>340|50=>64|5=>5|9=>9|66=>367|70=>371|76=>401|77=>92|n=>n,λ|n=>n⟩
theorem Zz:Go.Proofs.SlLaysF0.n6 prog MV:={
 mixed:=by kernel_rfl
 f6:=⟨f240.name,by decide,func240.trans (congrArg some fF)⟩
 f14:=⟨f289.name,by decide,func289.trans (congrArg some fF)⟩
 f15:=func228.trans (congrArg some fF)
 f20:=⟨f330.name,by decide,func330.trans (congrArg some fF)⟩
 f21:=⟨f331.name,by decide,func331.trans (congrArg some fF)⟩
 f22:=⟨f332.name,by decide,func332.trans (congrArg some fF)⟩
 f23:=⟨f333.name,by decide,func333.trans (congrArg some fF)⟩
 f24:=⟨f334.name,by decide,func334.trans (congrArg some fF)⟩
 f25:=⟨f335.name,by decide,func335.trans (congrArg some fF)⟩
 f26:=⟨f336.name,by decide,func336.trans (congrArg some fF)⟩
 f27:=⟨f337.name,by decide,func337.trans (congrArg some fF)⟩
 f28:=func282.trans (congrArg some fF)
 f29:=func283.trans (congrArg some fF)
 f46:=⟨f362.name,by decide,func362.trans (congrArg some fF)⟩
 f47:=func315.trans (congrArg some fF)
 f48:=func316.trans (congrArg some fF)
 f49:=⟨f363.name,by decide,func363.trans (congrArg some fF)⟩
 f50:=⟨f364.name,by decide,func364.trans (congrArg some fF)⟩
 f57:=⟨f391.name,by decide,func391.trans (congrArg some fF)⟩
 t0:=underlying0
 a0:=Tryz.isAgg0
 z0:=Tryz.sizeOf0
 v0:=Tryz.zeroValue0
 t3:=underlying3
 a3:=Tryz.isAgg3
 z3:=Tryz.sizeOf3
 v3:=Tryz.zeroValue3
 t4:=underlying4
 a4:=Tryz.isAgg4
 z4:=Tryz.sizeOf4
 v4:=Tryz.zeroValue4
 t5:=underlying5
 a5:=Tryz.isAgg5
 z5:=Tryz.sizeOf5
 v5:=Tryz.zeroValue5
 t9:=underlying9
 a9:=Tryz.isAgg9
 z9:=Tryz.sizeOf9
 v9:=Tryz.zeroValue9
 t22:=underlying32
 a22:=Tryz.isAgg32
 z22:=Tryz.sizeOf32
 v22:=Tryz.zeroValue32
 t25:=underlying289
 a25:=Tryz.isAgg289
 z25:=Tryz.sizeOf289
 v25:=Tryz.zeroValue289
 t39:=underlying50
 a39:=Tryz.isAgg50
 z39:=Tryz.sizeOf50
 v39:=Tryz.zeroValue50
 t45:=underlying340
 a45:=Tryz.isAgg340
 z45:=Tryz.sizeOf340
 v45:=Tryz.zeroValue340
 t46:=underlying341
 a46:=Tryz.isAgg341
 z46:=Tryz.sizeOf341
 v46:=Tryz.zeroValue341
 t50:=underlying64
 a50:=Tryz.isAgg64
 z50:=Tryz.sizeOf64
 v50:=Tryz.zeroValue64
 t53:=underlying120
 a53:=Tryz.isAgg120
 z53:=Tryz.sizeOf120
 v53:=Tryz.zeroValue120
 t55:=underlying126
 a55:=Tryz.isAgg126
 z55:=Tryz.sizeOf126
 v55:=Tryz.zeroValue126
 t66:=underlying367
 a66:=Tryz.isAgg367
 z66:=Tryz.sizeOf367
 v66:=Tryz.zeroValue367
 t70:=underlying371
 a70:=Tryz.isAgg371
 z70:=Tryz.sizeOf371
 v70:=Tryz.zeroValue371
 t76:=underlying401
 a76:=Tryz.isAgg401
 z76:=Tryz.sizeOf401
 v76:=Tryz.zeroValue401
 t77:=underlying92
 a77:=Tryz.isAgg92
 z77:=Tryz.sizeOf92
 v77:=Tryz.zeroValue92}
end Go.Proofs.YtecaahegomdbbaaGreatDoor
namespace Go.Proofs.YtecaahegomdbbaaGreatDoor.gp
open Go.Proofs.Tryz
open Go.RowKit
variable {g:Nat} {t:TypeId} {w:World}
section
def EO (w:World) (g:Nat) (l:List (fQ×Int)):Prop:=∃es clock,w.heap[g]? =some (.map es clock)/\es.toList.map (λe=>(e.key,e.val))=l.map λp=>(Value.string (su p.1),Value.int .i64 p.2)
def IT (k:fQ):List (fQ×Int)->Option Int
 |[]=>none
 |p::r=>if p.1=k then some p.2 else IT k r
theorem EO.lt {l:List (fQ×Int)} (h:EO w g l):g<w.heap.size:=by
 obtain⟨es,clock,h1,_⟩:=h
 grind
theorem EO.fr {S:Nat->Prop} {w':World} {l:List (fQ×Int)} (h:EO w g l) (f:Fr S w w') (d:¬S g):EO w' g l:=by
 have fW:=h.lt;obtain⟨es,clock,h1,a⟩:=h;exact⟨es,clock,(f.block g fW d).trans h1,a⟩
theorem EO.ext {w':World} {l:List (fQ×Int)} (h:EO w g l) (a:Ext w w'):EO w' g l:=h.fr a λd=>d
theorem Xp (a b:fQ):(su a==su b)=decide (a=b):=by
 grind [MapKept.bytes_beq,decide_eq_true,decide_eq_false,W9]
theorem qP (k:fQ):∀(es:List MapEntry) (l:List (fQ×Int)) (i:Nat),es.map (λe=>(e.key,e.val))=l.map (λp=>(Value.string (su p.1),Value.int .i64 p.2))->
  ∃r,Instr.findNow .string (.string (su k)) es i=some r/\r.map (·.2)=(IT k l).map (Value.int .i64)
 |[],[],_,_=>⟨none,rfl,rfl⟩
 |[],_::_,_,h=>by simp at h
 |_::_,[],_,h=>by simp at h
 | e::es,p::l,i,h=>by
  simp only[jm,zE,QK]at h;obtain⟨⟨h1,d⟩,a⟩:=h;have hs:Instr.sameNow .string (.string (su k)) e.key=some (decide (k=p.1)):=by rw[h1,←Xp];rfl
  by_cases hk:p.1=k
  ·simp_all [Instr.findNow,decide_eq_true,IT]
  ·obtain⟨r,f,g⟩:=qP k es l (i+1) a
   grind [IT,Instr.findNow,decide_eq_false]
section
variable {hs:List Nat} {H:World->Prop} {full:Array Oper} {K:Env->World->Prop} {rest:List Oper} {env:Env} {w:World} {d:Tmp} {ty:TypeId} {pos:String} {af:Array Edge}
theorem adh (h:∀w',EO w' w.heap.size []->Ext w w'->w'.heap.size=w.heap.size+1->xs prog fD fC hs gL full K rest ((d,.map (some w.heap.size))::env) w'):
  xs prog fD fC hs gL full K (⟨some d,.makeMap t none,ty,pos,af,none⟩::rest) env w:=by
 refine xw (by simp[fX,Op.operands]) fx (v:= .map (some w.heap.size)) (w':=w.alloc (.map #[] 0)) ?_ (h _ ⟨#[],0,by
  show(w.heap.push _)[w.heap.size]? =_
  simp,rfl⟩ (Fr.alloc _ _ _) ir) True.intro
 simp[execOp,run_makeMap]
theorem Sx {w:World} {l:List (fQ×Int)} (s:EO w g l) (t a d:TypeId) (hu:prog.underlying t=some (.map a d)) (hk:prog.underlying a=some .string) (B:(zeroValue d).run prog w= .ok (.int .i64 0) w) (k:fQ):
  (Instr.lookup t (.map (some g)) (.string (su k)) false).run prog w= .ok (.int .i64 ((IT k l).getD 0)) w:=by
 obtain⟨es,clock,h1,m⟩:=s;obtain⟨r,n,f⟩:=qP k es.toList l 0 m;have hc:(Instr.checkKey es.isEmpty 10000 a (.string (su k))).run prog w= .ok () w:=by grind [MapKept.run_checkKey,su,MapKept.IsKey]
 have x:(getObj g).run prog w= .ok (.map es clock) w:=by simp[getObj,Sem.run,h1]
 have u:(Instr.findKey a (.string (su k)) es.toList).run prog w= .ok r w:=by
  simp[Instr.findKey,run_underlying hk,n]
 simp only[Instr.lookup,sD,run_underlying hu,sM,x,hc,P0,u];cases r with
 |none=>
  have:IT k l=none:=by simpa using f.symm
  simp_all
 |some q=>
  obtain⟨j,v⟩:=q;simp only[tH]at f;cases y:IT k l<;>simp_all
theorem aev {f a:TypeId} {x y:Operand} {l:List (fQ×Int)} {k:fQ} (hu:prog.underlying t=some (.map f a)) (hk:prog.underlying f=some .string) (u:∀w',(zeroValue a).run prog w'= .ok (.int .i64 0) w') (m:EO w g l) (n:gh env x=some (.map (some g))) (s:gh env y=some (.string (su k)))
  (h:xs prog fD fC hs gL full K rest ((d,.int .i64 ((IT k l).getD 0))::env) w):xs prog fD fC hs gL full K (⟨some d,.lookup t x y false,ty,pos,af,none⟩::rest) env w:=by
 refine xw (v:= .int .i64 ((IT k l).getD 0)) (w':=w) (by grind [fX,Op.operands]) fx ?_ h True.intro;simp[execOp,fM n,fM s,Sx m t f a hu hk (u w) k]
theorem abU {a n:TypeId} {x y z:Operand} {l:List (fQ×Int)} {k:fQ} {v:Int} (hu:prog.underlying t=some (.map a n)) (hk:prog.underlying a=some .string) (m:EO w g l) (B:IT k l=none) (E:gh env x=some (.map (some g))) (F:gh env y=some (.string (su k))) (G:gh env z=some (.int .i64 v))
  (h:∀w',EO w' g (l++[(k,v)])->Fr (· =g) w w'->xs prog fD fC hs gL full K rest env w'):xs prog fD fC hs gL full K (⟨none,.mapUpdate t x y z,ty,pos,af,none⟩::rest) env w:=by
 have fW:=m.lt;obtain⟨es,clock,h1,d⟩:=m;obtain⟨r,s,f⟩:=qP k es.toList l 0 d
 have C:r=none:=by
  rw[B]at f;cases r with
  |none=>rfl
  |some _=>cases f
 subst C;have hc:(Instr.checkKey false 10000 a (.string (su k))).run prog w= .ok () w:=by grind [MapKept.run_checkKey,su,MapKept.IsKey]
 have D:(Instr.mapUpdate t (.map (some g)) (.string (su k)) (.int .i64 v)).run prog w= .ok () {w with heap:=w.heap.setIfInBounds g (.map (es.push {key:= .string (su k),val:= .int .i64 v,born:=clock}) (clock+1))}:=by
  simp[Instr.mapUpdate,run_underlying hu,Wy h1,hc,UT hk s,VA _ h1,Result.andThen]
 refine gR fx (by grind [fX,Op.operands]) ?_;have u:iT fD fC hs ⟨none,.mapUpdate t x y z,ty,pos,af,none⟩= .w:=rfl;rw[u];show out prog ((execOp (ev env) ⟨none,.mapUpdate t x y z,ty,pos,af,none⟩).run prog w) _
 have e:(execOp (ev env) ⟨none,.mapUpdate t x y z,ty,pos,af,none⟩).run prog w= .ok .skip {w with heap:=w.heap.setIfInBounds g (.map (es.push {key:= .string (su k),val:= .int .i64 v,born:=clock}) (clock+1))}:=by
  simp[execOp,fM E,fM F,fM G,D]
 rw[e];refine⟨True.intro,h _ ⟨es.push {key:= .string (su k),val:= .int .i64 v,born:=clock},clock+1,?_,?_⟩ ⟨rfl,rfl,rfl,?_,?_⟩⟩
 ·grind
 ·simp[d]
 ·grind
 grind
end
end
end Go.Proofs.YtecaahegomdbbaaGreatDoor.gp
namespace Go.Proofs.YtecaahegomdbbaaGreatDoor
open Go.Proofs.Tryz
namespace gp.Sz
theorem iG:∀(a b:List hJ),fE (a++b)=fE a+fE b
 |[],b=>by rw[vD];simp[fE]
 |p::a,b=>by rw[qp,fE,fE,iG a b];omega
theorem rq:∀(r:List hJ) (c:hJ),fE (lS c r)=c.data.length+fE r
 |[],c=>rfl
 |p::r,c=>by
  rw[lS];split
  ·rw[rq r];simp only[fE,hQ];omega
  ·rw[fE,rq r];simp only[fE]
theorem Ez (l:List hJ):fE (jC l)=fE l:=by
 cases l with
 |nil=>rfl
 |cons p r=>rw[jC,rq];rfl
theorem NW (l:List hJ) (pos:Int) (s:fQ):fE (qN l pos s)<=2*fE l+s.length:=by
 unfold qN;rw[Ez,iG,iG];have h1:=lI l 0 pos;have a:=lI l (pos+(s.length:Int)) 1099511627777;simp only[fE];omega
theorem uj (n:Nd) (pos:Int) (s:fQ):fE (gB n pos s).1.data<=2*fE n.data+s.length:=by
 unfold gB;have:=NW n.data pos s
 repeat' split
 all_goals first|exact this|(dsimp only;omega)
theorem IZ (n:Nd) (size:Int):fE (ki n size).1.data<=fE n.data:=by
 unfold ki;split
 ·exact gJ _
 ·exact lI _ _ _
theorem Dx (u:Nat) {p:fQ} (g:p.length<=100):fE (n2 u p (mkNode u)).data<=300:=by
 have f:=uo (u% 1000)
 have ht:(oY (u% 1000)).length<=65:=by
  unfold oY;rw[hQ,hQ];simp only[iA,kh];omega
 have h1:=uj (mkNode u) (u/4% 2*600:Nat) (oY (u% 1000));have h0:fE (mkNode u).data=0:=rfl;have d:=uj (gB (mkNode u) (u/4% 2*600:Nat) (oY (u% 1000))).1 (u% 90*10:Nat) p;unfold n2;dsimp only
 have a:fE (if u% 2=0 then(gB (gB (mkNode u) (u/4% 2*600:Nat) (oY (u% 1000))).1 (u% 90*10:Nat) p).1 else(gB (mkNode u) (u/4% 2*600:Nat) (oY (u% 1000))).1).data<=300:=by
  split<;>omega
 split
 ·exact mn (IZ _ _) a
 ·exact a
theorem Dy {m:wg} (h:∀n∈m.ns,fE n.data<=300) (u:Nat):∀n∈(iw m u).ns,fE n.data<=300:=by
 unfold iw;split
 ·exact h
 ·rename_i p d;have f:=lr (rj d).1
  have key:∀x:Nd,fE x.data<=300->∀n∈m.ns++[x],fE n.data<=300:=λx g n a=>by
   rcases iK.1 a with a|a
   ·exact h n a
   ·rw[kl.1 a];exact g
  repeat' split
  all_goals first|exact h|exact key _ (iy _)|exact key _ (Dx u f)
theorem uQ:∀(l:List Nat) (m:wg),(∀n∈m.ns,fE n.data<=300)->∀n∈(l.foldl iw m).ns,fE n.data<=300
 |[],_,h=>h
 |u::l,m,h=>by rw[u3];exact uQ l _ (Dy h u)
theorem z6 {k:Nat}:∀(l:List Nd),(∀n∈l,fE n.data<=k)->gd l<=k*l.length
 |[],_=>iy _
 |n::l,h=>by
  have h1:=z6 l λx a=>h x (qe _ a)
  have d:=h n jQ;rw[gd,iA,Nat.mul_succ];omega
theorem D6:∀(l:List En) (u:Nat),kE u l<=u+l.length
 |[],u=>gJ _
 |e::r,u=>by
  rw[kE,iA];split
  ·have:=D6 r u;omega
  ·have:=D6 r (u+1);omega
theorem Uh {t:fY} (h:gQ t=true):t.ns.length<=t.es.length:=by
 have h1:=BX h;have a:=D6 t.es 0;omega
theorem MP (l:List Nat):∀n∈(Oi l).ns,fE n.data<=300:=by
 intro n a
 have d:∀x∈(uO l).ns,fE x.data<=300:=uQ _ _ λx f=>by
  rw[kl.1 f];exact iy _
 unfold Oi jw at a;obtain⟨k,_,rfl⟩:=lN.1 a;rw[kv];cases hk:(uO l).ns[k.toNat]? with
 |none=>exact iy _
 |some x=>exact d x (jS hk)
theorem CS (l:List Nat):gd (Oi l).ns<=7800:=by
 have h1:=z6 _ (MP l);have a:=Uh (Ek l);have d:=D2 l;omega
end gp.Sz
end Go.Proofs.YtecaahegomdbbaaGreatDoor
namespace Go.Proofs.YtecaahegomdbbaaGreatDoor.gp
open Go.Proofs.Tryz
open Go.RowKit
variable {A:Array Nat} {full:Array Oper} {env:Env} {l:List Nat} {N i:Nat} {o:Oper} {w:World}
section
def Dp (w:World):Prop:=Lib.TabIs prog w "internal/strconv.uint64pow10" .u64 Lib.pow10Tab
theorem Dp.ext {w':World} (h:Dp w) (d:Ext w w'):Dp w':=by
 unfold Dp Lib.TabIs at h⊢;rw[←h];unfold World.var? at h⊢;cases f:prog.globalNamed "internal/strconv.uint64pow10"with
 |none=>rfl
 | some g=>
  rw[f]at h
  have fW:g<w.heap.size:=by
   rcases pT g w.heap.size with a|a
   ·exact a
   ·simp only[C4,Ds a]at h;cases h
  simp only[C4,d.block g fW (λa=>a)]
end
section
def lq (full:Array Oper) (l:List Nat) (i:Nat):Bool:=match full[i]? with
 |none=>false
 |some o=>o.after.all λe=>!Region.binds .any e||!(l.contains e.on)
theorem sv (a:full[i]? =some o):lq full l i=true↔∀e∈o.after,Region.binds .any e=true->e.on∉l:=by
 grind [lq,Array.all_eq_true_iff_forall_mem,Region.binds]
section
variable {P:Program} {fD fC:TypeId->Bool} {hs:List Nat} {H:World->Prop}
def UZ (P:Program) (fD fC:TypeId->Bool) (hs:List Nat) (H:World->Prop) (full:Array Oper) (K:Act->World->Prop):Nat->List Nat->Act->World->Prop
 |0,l,a,w=>l=[]/\K a w
 |f+1,l,a,w=>(l=[]->K a w)/\∀i o,i∈l->full[i]? =some o->lq full l i=true->s1 P fD fC hs H full o (UZ P fD fC hs H full K f (l.erase i)) a w
def Vj (full:Array Oper) (l:List Nat):Prop:=∀i o,full[i]? =some o->i∉l->∀e∈o.after,Region.binds .any e=true->e.on∉l
def Gw (full:Array Oper) (A:Array Nat):Bool:=
 Region.noSelect full&&(List.range full.size).all λi=>
  match full[i]? with
  |none=>false
  |some o=>
   (o.after.all λe=>!Region.binds .any e||decide (e.on<i))&&
   (List.range i).all λj=>!(A.getD i 0).testBit j||o.after.any λe=>Region.binds .any e&&(e.on==j||(decide (j<e.on)&&(A.getD e.on 0).testBit j))
structure BV (full:Array Oper) (A:Array Nat):Prop where
 Vi:Region.noSelect full=true
 down:∀i o,full[i]? =some o->∀e∈o.after,Region.binds .any e=true->e.on<i
 VO:∀i o,full[i]? =some o->∀j,j<i->(A.getD i 0).testBit j=true->∃e∈o.after,Region.binds .any e=true/\(e.on=j∨(j<e.on/\(A.getD e.on 0).testBit j=true))
theorem Jq (h:Gw full A=true):BV full A:=by
 unfold Gw at h;rw[iO]at h
 have f:∀i o,full[i]? =some o->(o.after.all λe=>!Region.binds .any e||decide (e.on<i))=true/\
   ∀j,j<i->(!(A.getD i 0).testBit j||o.after.any λe=>Region.binds .any e&&(e.on==j||(decide (j<e.on)&&(A.getD e.on 0).testBit j)))=true:=fS
 refine⟨h.1,λi o a e he g=>?_,λi o a j m d=>?_⟩<;>grind [Array.all_eq_true_iff_forall_mem,Bool.not_true,Array.any_eq_true']
theorem Kv {full:Array Oper} {A:Array Nat} (hq:BV full A) {l:List Nat} (hc:Vj full l) {j:Nat}:∀(m k:Nat),k<m->k<full.size->k∉l->(A.getD k 0).testBit j=true->j<k->j∉l
 |0,k,hk,_,_,_,_=>fy
 |m+1,k,hk,v,sX,f,n=>by
  obtain⟨o,a⟩:∃o,full[k]? =some o:=mu;obtain⟨e,he,d,s⟩:=hq.VO k o a j n f;have hle:=hc k o a sX e he d;have u:=hq.down k o a e he d;rcases s with t|⟨fW,g⟩
  ·grind
  ·exact Kv hq hc m e.on fy fy hle g fW
theorem T9 (hq:BV full A) (hc:Vj full l) {j:Nat} (a:full[j]? =some o) (t:lq full l j=true) (n:i<j) (g:(A.getD j 0).testBit i=true):i∉l:=by
 obtain⟨e,he,d,s⟩:=hq.VO j o a i n g;have hle:=(sv a).1 t e he d;have u:=hq.down j o a e he d;have v:j<full.size:=(JZ.1 a).1;rcases s with f|⟨fW,m⟩
 ·rw[←f];exact hle
 ·exact Kv hq hc (e.on+1) e.on fy fy hle m fW
theorem Vj.erase {full:Array Oper} {l:List Nat} (hc:Vj full l) (n:l.Nodup) {j:Nat} {o:Oper} (s:full[j]? =some o) (t:lq full l j=true):Vj full (l.erase j):=λi g f hi e he a hm=>by
 have d:=UY hm
 by_cases m:i=j
 ·grind [sv]
 ·exact hc i g f fS e he a d
theorem CW {j:Nat} (a:lq full l j=true):lq full (l.erase i) j=true:=by
 grind [lq,sv,List.mem_of_mem_erase]
def u6 (fD fC:TypeId->Bool) (hs:List Nat) (full:Array Oper) (A:Array Nat) (l:List Nat) (i:Nat):Bool:=
 l.contains i&&lq full l i&&l.all λj=>j==i||free fD fC hs full i j||(decide (i<j)&&(A.getD j 0).testBit i)
structure Xn (fD fC:TypeId->Bool) (hs:List Nat) (full:Array Oper) (A:Array Nat) (l:List Nat) (i:Nat):Prop where
 mem:i∈l
 ZB:lq full l i=true
 all:∀j∈l,j≠i->free fD fC hs full i j=true∨(i<j/\(A.getD j 0).testBit i=true)
theorem Jg (h:u6 fD fC hs full A l i=true):Xn fD fC hs full A l i:=by
 unfold u6 at h;simp only[iO,List.contains_iff_mem,lj,tK,beq_iff_eq,decide_eq_true_eq]at h;refine⟨h.1.1,h.1.2,λj a d=>?_⟩
 grind
theorem Hk {full:Array Oper} {A:Array Nat} (hq:BV full A) {K:Act->World->Prop}:∀(f:Nat) (l:List Nat) (i:Nat) (o:Oper) (a:Act) (w:World),H w->l.length=f+1->l.Nodup->Vj full l->Xn fD fC hs full A l i->full[i]? =some o->
  s1 P fD fC hs H full o (UZ P fD fC hs H full K f (l.erase i)) a w->UZ P fD fC hs H full K (f+1) l a w
 | f,l,i,o,a,w,hw,hlen,x,hc,d,n,h=>by
  refine⟨fS,λj s E m y=>?_⟩
  by_cases C:j=i
  ·grind
  have g:free fD fC hs full i j=true:=by
   rcases d.all j E C with B|⟨h1,u⟩
   ·exact B
   ·exact absurd d.mem (by grind [T9])
  have F:j∈l.erase i:=fS;have hle:(l.erase i).length=f:=by rw[UP d.mem,hlen];rfl
  cases f with
  |zero=>
   grind
  | succ f=>
   unfold free at g;rw[n,m]at g;simp only[iO]at g
   have u:s1 P fD fC hs H full o (s1 P fD fC hs H full s (UZ P fD fC hs H full K f ((l.erase i).erase j))) a w:=
    x4 hw (λt w' _ k=>k.2 j s F m (CW y)) h
   have v:=KP hw g.1 g.2 (λcs b=>AS hq.Vi i o cs b n) (λcs b=>AS hq.Vi j s cs b m) u;rw[List.erase_comm]at v;have D:i∈l.erase j:=fS;refine x4 hw (λt w' I k=>?_) v
   exact Hk hq f (l.erase j) i o t w' I fS (x.erase j) (hc.erase x m y)
    ⟨D,CW d.ZB,λJ L G=>d.all J fS G⟩ n k
theorem Dr (hq:BV full A) {K:Act->World->Prop} {Q:Exit->Act->World->Prop} (u:∀a w,K a w->Q .normal a w):
  ∀(f:Nat) (listed:Array Bool) (l:List Nat) (a:Act) (w:World),H w->listed.size=full.size->l.length=f->l.Nodup->(∀i,i∈l↔i<full.size/\listed.getD i false=false)->
   UZ P fD fC hs H full K f l a w->wpAny P .any full Q f listed a w:=by
 intro f;have ZB:∀(listed:Array Bool) (l:List Nat),listed.size=full.size->(∀i,i∈l↔i<full.size/\listed.getD i false=false)->∀i,i∈Region.ready .any full listed->i∈l/\∃o,full[i]? =some o/\lq full l i=true:=by grind [mem_ready,Array.size,Array.getElem?_eq_some_iff,sv,Array.getD_eq_getD_getElem?,Array.getElem?_eq_getElem]
 have stuck:∀(listed:Array Bool) (l:List Nat),listed.size=full.size->(∀i,i∈l↔i<full.size/\listed.getD i false=false)->Region.ready .any full listed=[]->∀i,i∉l:=λlisted l n d m i=>by
  induction i using Nat.strongRecOn with
  | _ i x=>
   intro hi;have h1:=(d i).1 hi;obtain⟨o,g⟩:∃o,full[i]? =some o:=mu
   have:i∈Region.ready .any full listed:=by
    rw[mem_ready];refine⟨?_,o,g,λe he B=>?_⟩
    ·grind
    ·have E:=hq.down i o g e he B
     grind
   grind
 have empty:∀(l:List Nat),(∀i,i∉l)->l=[]:=λl h=>by
  cases l with
  |nil=>rfl
  |cons i r=>exact absurd ir (h i)
 induction f with
 | zero=>
  intro listed l a w hw n hlen s d h;obtain⟨rfl,hk⟩:=h;refine⟨?_,u _ _ hk⟩;cases m:Region.ready .any full listed with
  |nil=>rfl
  |cons i r=>
   have:=(ZB listed [] n d i (by rw[m];simp)).1;cases this
 | succ f x=>
  intro listed l a w hw n hlen s d h;refine⟨λm=>u _ _ (h.1 (empty l fS)),λi hi=>?_⟩;obtain⟨C,o,g,m⟩:=ZB listed l n d i hi;have fW:i<full.size:=fS;refine oi (fD:=fD) (fC:=fC) (hs:=hs) hw (λy w' D k=>?_) g (h.2 i o C g m);refine x _ (l.erase i) y w' D (by simpa using n) fS (s.erase i) (λj=>?_) k;rw[s.mem_erase_iff]
  by_cases v:j=i
  ·subst v;constructor
   ·grind
   ·rintro⟨_,t⟩;rw[pf,OT fy]at t;cases t
  ·rw[getD_set_ne false (uM v),d j]
   grind
def xg (P:Program) (fD fC:TypeId->Bool) (hs:List Nat) (H:World->Prop) (full:Array Oper) (N:Nat) (K:Env->World->Prop) (l:List Nat) (env:Env) (w:World):Prop:=
 l.Nodup->Vj full l->H w->∀a,Fits N env a->UZ P fD fC hs H full (λf w'=>∃d,Fits N d f/\K d w') l.length l a w
structure uF (full:Array Oper) (N:Nat) (A:Array Nat):Prop where
 a:BV full A
 d:∀(i:Nat) (o:Oper),full[i]? =some o->∀t,o.dst=some t->t<N
theorem WB {K:Env->World->Prop} (h:K env w):xg P fD fC hs H full N K [] env w:=λ_ _ _ _ a=>⟨rfl,env,a,h⟩
theorem L5 (m:uF full N A) {K:Env->World->Prop} (n:l.Nodup) (hc:Vj full l) (hw:H w) (s:full[i]? =some o) (v:lq full l i=true)
  (h:xs P fD fC hs H full (xg P fD fC hs H full N K (l.erase i)) [o] env w) (a:Act) (t:Fits N env a):
  s1 P fD fC hs H full o (UZ P fD fC hs H full (λg w'=>∃f,Fits N f g/\K f w') (l.erase i).length (l.erase i)) a w:=by
 have:=Nv (F:=λ_=>0) (fs:=[0]) (is:=[i]) (l:=[o]) m.a.Vi m.d (K:=xg P fD fC hs H full N K (l.erase i)) (K':=UZ P fD fC hs H full (λg w'=>∃f,Fits N f g/\K f w') (l.erase i).length (l.erase i))
  (λf g w' u x k=>k (n.erase i) (hc.erase n s v) x g u) (.cons s rfl .nil) env a w hw t h
 simp_all [ss]
theorem DN (m:uF full N A) {K:Env->World->Prop} (n:u6 fD fC hs full A l i=true) (t:full[i]? =some o)
  (h:xs P fD fC hs H full (xg P fD fC hs H full N K (l.erase i)) [o] env w):xg P fD fC hs H full N K l env w:=λs hc hw a u=>by
 have d:=Jg n;have hlen:(l.erase i).length=l.length-1:=UP d.mem;have v:0<l.length:=VS d.mem;have:=Hk (P:=P) (fD:=fD) (fC:=fC) (hs:=hs) (H:=H) (K:=λg w'=>∃f,Fits N f g/\K f w') m.a (l.length-1) l i o a w hw fy s hc d t (by grind [L5,Xn.ZB])
 grind
theorem DT (g:uF full N A) {K:Env->World->Prop} (v:0<l.length)
  (h:∀i o,i∈l.filter (lq full l)->full[i]? =some o->xs P fD fC hs H full (xg P fD fC hs H full N K (l.erase i)) [o] env w):xg P fD fC hs H full N K l env w:=λs hc hw a m=>by
 obtain⟨f,n⟩:∃f,l.length=f+1:=mu;rw[n];refine⟨fS,λi o u d t=>?_⟩;have:=L5 g s hc hw d t (h i o fS d) a m
 grind
def rA (fD fC:TypeId->Bool) (hs:List Nat) (full:Array Oper) (A:Array Nat):List Nat->List Nat->List Nat->Bool
 |l,[],l'=>l==l'
 |l,i::is,l'=>u6 fD fC hs full A l i&&rA fD fC hs full A (l.erase i) is l'
theorem v8 {full:Array Oper} {N:Nat} {A:Array Nat} (d:uF full N A) {K:Env->World->Prop} {l':List Nat}:∀{is l:List Nat} {ops:List Oper} {env:Env} {w:World},rA fD fC hs full A l is l'=true->is.map (full[·]?)=ops.map some->
  xs P fD fC hs H full (xg P fD fC hs H full N K l') ops env w->xg P fD fC hs H full N K l env w
 |[],l,[],env,w,h1,_,h=>by
  have:l=l':=by simpa[rA]using h1
  subst this;exact h
 |[],_,_::_,_,_,_,a,_=>by simp at a
 |_::_,_,[],_,_,_,a,_=>by simp at a
 |i::is,l,o::ops,env,w,h1,a,h=>by
  rw[rA,iO]at h1;rw[jm,jm,zE]at a;refine DN d h1.1 a.1 ?_;obtain⟨g,n,ht,m⟩:=h;refine⟨g,n,λe=>⟨(ht e).1,?_⟩,λe=>v8 d h1.2 a.2 (m e)⟩;have f:=(ht e).2;revert f;generalize iT fD fC hs o=c;intro f;cases c with
  |p=>obtain⟨v,q1,q2⟩:=f;exact⟨v,q1,v8 d h1.2 a.2 q2⟩
  |r=>obtain⟨v,q1,q2⟩:=f;exact⟨v,q1,v8 d h1.2 a.2 q2⟩
  |h=>obtain⟨v,q1,q2⟩:=f;exact⟨v,q1,v8 d h1.2 a.2 q2⟩
  |w=>exact uU (λv w' k=>⟨k.1,v8 d h1.2 a.2 k.2⟩) f
end
section
variable {hs:List Nat} {H:World->Prop} {K:Env->World->Prop} {env:Env} {w:World} {l:List Oper} {N:Nat}
theorem qt (a:qB N l.toArray=true) (hq:Gw l.toArray A=true):uF l.toArray N A:=⟨Jq hq,(mC a).2⟩
end
end
end Go.Proofs.YtecaahegomdbbaaGreatDoor.gp
namespace Go.Proofs.YtecaahegomdbbaaGreatDoor.gp.Rn
open Go.Proofs.Tryz
open Go.RowKit
variable {cs:Array Value} {k:IntKind} {vs:List Value} {g o:Nat} {x:Operand} {e:TypeId} {v:Value} {w w':World}
noncomputable section
section
inductive SV where
 |n (k:IntKind) (a:Nat)
 |m (k:IntKind) (a:Nat)
 |b (x:Bool)
 |s (l:List Nat)
 |p0
 |p (id o:Nat)
 |l0
 |l (id z j n:Nat)
 |lx (id z j n c:Nat)
 |le (id z j a:Nat)
 |u
 |fl (n:Nat)
 |cx (a b:Nat)
 |mp (id:Nat)
 |i0
 |x (k:IntKind) (id:Nat)
 |sl (l:List Nat)
inductive TV where
 |v (x:SV)
 |g (l:List SV)
inductive AV where
 |v (x:SV)
 |g (l:List SV)
 |t (l:List TV)
 |f (fn:Nat) (l:List SV)
inductive Tr (α:Type)where
 |nil
 |leaf (v:α)
 |node (l r:Tr α)
structure Ob where
 e:TypeId
 d:Nat
 n:Nat
 m:Tr SV
structure Mem where
 n:Nat
 h:Tr Ob
 mp:List (Nat×List (Nat×Nat))
abbrev mB:=List (Nat×AV)
structure En where
 vs:mB
 ts:mB
 hs:List (Nat×Nat×List SV)
 ms:List Mem
inductive Ex where
 |pn
 |ext (n:Nat)
 |OF (n:Nat)
 |ret
 |val (v:AV)
inductive Rs where
 |no
 |mk (x:Ex) (e:En) (m:Mem)
def fN (n:Nat) (k:Nat->Rs):Rs:=Nat.rec (motive:=λ_=>Rs) (k 0) (λm _=>k m) (Nat.add n 1)
def jb (b:Bool) (r:Rs):Rs:=Bool.rec (motive:=λ_=>Rs) .no r b
def yQ (b:Bool) (x y:Rs):Rs:=Bool.rec (motive:=λ_=>Rs) y x b
section
variable {α:Type}
def fP (l:List α) (k:List α->Rs):Rs:=List.rec (motive:=λ_=>(List α->Rs)->Rs) (λk=>k []) (λx _ a k=>a λr=>k (x::r)) l k
def xr (d k:Nat) (t:Tr α) (c:α->Rs):Rs:=Nat.rec (motive:=λ_=>Nat->Tr α->Rs) (λk t=>Nat.rec (motive:=λ_=>Rs) (Tr.rec (motive:=λ_=>Rs) .no c (λ_ _ _ _=> .no) t) (λ_ _=> .no) k) (λ_ a k t=>Tr.rec (motive:=λ_=>Rs) .no (λ_=> .no) (λl r _ _=>Nat.rec (motive:=λ_=>Rs) (a (Nat.shiftRight k 1) l) (λ_ _=>a (Nat.shiftRight k 1) r) (Nat.land k 1)) t) d k t
def yM (d k:Nat) (x:α) (t:Tr α) (c:Tr α->Rs):Rs:=Nat.rec (motive:=λ_=>Nat->Tr α->(Tr α->Rs)->Rs) (λk t c=>Nat.rec (motive:=λ_=>Rs) (Tr.rec (motive:=λ_=>Rs) .no (λ_=>c (.leaf x)) (λ_ _ _ _=> .no) t) (λ_ _=> .no) k) (λ_ a k t c=>Tr.rec (motive:=λ_=>Rs) .no (λ_=> .no) (λl r _ _=>Nat.rec (motive:=λ_=>Rs) (a (Nat.shiftRight k 1) l λl=>c (.node l r)) (λ_ _=>a (Nat.shiftRight k 1) r λr=>c (.node l r)) (Nat.land k 1)) t) d k t c
def xB (d k:Nat) (x:α) (t:Tr α) (c:Tr α->Rs):Rs:=Nat.rec (motive:=λ_=>Nat->Tr α->(Tr α->Rs)->Rs) (λk _ c=>Nat.rec (motive:=λ_=>Rs) (c (.leaf x)) (λ_ _=> .no) k) (λ_ a k t c=>Tr.rec (motive:=λ_=>Rs) (Nat.rec (motive:=λ_=>Rs) (a (Nat.shiftRight k 1) .nil λl=>c (.node l .nil)) (λ_ _=>a (Nat.shiftRight k 1) .nil λr=>c (.node .nil r)) (Nat.land k 1)) (λ_=> .no) (λl r _ _=>Nat.rec (motive:=λ_=>Rs) (a (Nat.shiftRight k 1) l λl=>c (.node l r)) (λ_ _=>a (Nat.shiftRight k 1) r λr=>c (.node l r)) (Nat.land k 1)) t) d k t c
end
def dI:Nat:=17
def MS (a:Mem) (id:Nat) (c:Ob->Rs):Rs:=xr dI id a.h c
def Yr (d:Nat) (m:Tr SV) (o n:Nat) (c:List SV->Rs):Rs:=Nat.rec (motive:=λ_=>Nat->(List SV->Rs)->Rs) (λ_ c=>c []) (λ_ a o c=>xr d o m λx=>fN (Nat.add o 1) λo=>a o λl=>c (x::l)) n o c
def J6 (f:Mem) (id o n:Nat) (c:List SV->Rs):Rs:=MS f id λa=>Yr a.d a.m o n c
def wrT (d o:Nat) (l:List SV) (m:Tr SV) (c:Tr SV->Rs):Rs:=List.rec (motive:=λ_=>Nat->Tr SV->(Tr SV->Rs)->Rs) (λ_ m c=>c m) (λx _ a o m c=>yM d o x m λm=>fN (Nat.add o 1) λo=>a o m c) l o m c
def RZ (f:Mem) (id o:Nat) (l:List SV) (c:Mem->Rs):Rs:=MS f id λa=>wrT a.d o l a.m λm=>yM dI id ⟨a.e,a.d,a.n,m⟩ f.h λh=>c ⟨f.n,h,f.mp⟩
def C1 (d o:Nat) (l:List SV) (m:Tr SV) (c:Tr SV->Rs):Rs:=List.rec (motive:=λ_=>Nat->Tr SV->(Tr SV->Rs)->Rs) (λ_ m c=>c m) (λx _ a o m c=>xB d o x m λm=>fN (Nat.add o 1) λo=>a o m c) l o m c
def SY (a:Mem) (d:Ob) (c:Nat->Mem->Rs):Rs:=jb (Nat.ble (Nat.add a.n 1) 131072) (xB dI a.n d a.h λh=>fN (Nat.add a.n 1) λn=>c a.n ⟨n,h,a.mp⟩)
def qG (a:Mem) (e:TypeId) (l:List SV) (c:Nat->Mem->Rs):Rs:=fN l.length λq=>fN (Nat.add (Nat.log2 q) 1) λd=>C1 d 0 l .nil λm=>SY a ⟨e,d,q,m⟩ c
def OA (a:Mem) (id:Nat) (c:Mem->Rs):Rs:=yM dI id ⟨0,0,0,.nil⟩ a.h λh=>c ⟨a.n,h,a.mp⟩
def LL (t:Nat) (l:mB) (k:AV->Rs):Rs:=List.rec (motive:=λ_=>Rs) .no (λx _ a=>Bool.rec (motive:=λ_=>Rs) a (k x.2) (Nat.beq x.1 t)) l
def Kd (t:Nat) (v:AV) (l:mB) (c:mB->Rs):Rs:=List.rec (motive:=λ_=>(mB->Rs)->Rs) (λc=>c [(t,v)]) (λx r a c=>Bool.rec (motive:=λ_=>Rs) (a λr=>c (x::r)) (c ((t,v)::r)) (Nat.beq x.1 t)) l c
def kept (m t:Nat):Bool:=Nat.beq (Nat.land (Nat.shiftRight m t) 1) 1
def TM (x:AV) (f:SV->Rs) (g:List SV->Rs):Rs:=AV.rec (motive:=λ_=>Rs) f g (λ_=> .no) (λ_ _=> .no) x
def tX (x:AV) (f:IntKind->Nat->Rs):Rs:=AV.rec (motive:=λ_=>Rs) (λx=>SV.rec (motive:=λ_=>Rs) f (λ_ _=> .no) (λ_=> .no) (λ_=> .no) .no (λ_ _=> .no) .no (λ_ _ _ _=> .no) (λ_ _ _ _ _=> .no) (λ_ _ _ _=> .no) .no (λ_=> .no) (λ_ _=> .no) (λ_=> .no) .no (λ_ _=> .no) (λ_=> .no) x) (λ_=> .no) (λ_=> .no) (λ_ _=> .no) x
def U9 (x:AV) (a b:Rs):Rs:=AV.rec (motive:=λ_=>Rs) (λx=>SV.rec (motive:=λ_=>Rs) (λ_ _=> .no) (λ_ _=> .no) (λq=>yQ q a b) (λ_=> .no) .no (λ_ _=> .no) .no (λ_ _ _ _=> .no) (λ_ _ _ _ _=> .no) (λ_ _ _ _=> .no) .no (λ_=> .no) (λ_ _=> .no) (λ_=> .no) .no (λ_ _=> .no) (λ_=> .no) x) (λ_=> .no) (λ_=> .no) (λ_ _=> .no) x
def I7 (x:AV) (f:List Nat->Rs):Rs:=AV.rec (motive:=λ_=>Rs) (λx=>SV.rec (motive:=λ_=>Rs) (λ_ _=> .no) (λ_ _=> .no) (λ_=> .no) f .no (λ_ _=> .no) .no (λ_ _ _ _=> .no) (λ_ _ _ _ _=> .no) (λ_ _ _ _=> .no) .no (λ_=> .no) (λ_ _=> .no) (λ_=> .no) .no (λ_ _=> .no) (λ_=> .no) x) (λ_=> .no) (λ_=> .no) (λ_ _=> .no) x
def Mp (x:AV) (f:Nat->Nat->Rs):Rs:=AV.rec (motive:=λ_=>Rs) (λx=>SV.rec (motive:=λ_=>Rs) (λ_ _=> .no) (λ_ _=> .no) (λ_=> .no) (λ_=> .no) .no f .no (λ_ _ _ _=> .no) (λ_ _ _ _ _=> .no) (λ_ _ _ _=> .no) .no (λ_=> .no) (λ_ _=> .no) (λ_=> .no) .no (λ_ _=> .no) (λ_=> .no) x) (λ_=> .no) (λ_=> .no) (λ_ _=> .no) x
def Yo (x:AV) (f:Nat->Rs):Rs:=AV.rec (motive:=λ_=>Rs) (λx=>SV.rec (motive:=λ_=>Rs) (λ_ _=> .no) (λ_ _=> .no) (λ_=> .no) (λ_=> .no) .no (λ_ _=> .no) .no (λ_ _ _ _=> .no) (λ_ _ _ _ _=> .no) (λ_ _ _ _=> .no) .no f (λ_ _=> .no) (λ_=> .no) .no (λ_ _=> .no) (λ_=> .no) x) (λ_=> .no) (λ_=> .no) (λ_ _=> .no) x
def onX (x:AV) (f:Nat->Nat->Rs):Rs:=AV.rec (motive:=λ_=>Rs) (λx=>SV.rec (motive:=λ_=>Rs) (λ_ _=> .no) (λ_ _=> .no) (λ_=> .no) (λ_=> .no) .no (λ_ _=> .no) .no (λ_ _ _ _=> .no) (λ_ _ _ _ _=> .no) (λ_ _ _ _=> .no) .no (λ_=> .no) f (λ_=> .no) .no (λ_ _=> .no) (λ_=> .no) x) (λ_=> .no) (λ_=> .no) (λ_ _=> .no) x
def LI (x:AV) (f0:Rs) (fl:Nat->Nat->Nat->Nat->Rs) (f:Nat->Nat->Nat->Nat->Nat->Rs) (a:Rs) (fs:List Nat->Rs) (d:Nat->Nat->Rs):Rs:=AV.rec (motive:=λ_=>Rs) (λx=>SV.rec (motive:=λ_=>Rs) (λ_ _=> .no) (λ_ _=> .no) (λ_=> .no) fs .no d f0 fl f (λ_ _ _ _=>a) .no (λ_=> .no) (λ_ _=> .no) (λ_=> .no) .no (λ_ _=> .no) (λ_=> .no) x) (λ_=> .no) (λ_=> .no) (λ_ _=> .no) x
def VW (x:AV) (f:List SV->Rs):Rs:=AV.rec (motive:=λ_=>Rs) (λ_=> .no) f (λ_=> .no) (λ_ _=> .no) x
def onT (x:AV) (f:List TV->Rs):Rs:=AV.rec (motive:=λ_=>Rs) (λ_=> .no) (λ_=> .no) f (λ_ _=> .no) x
def onF (x:AV) (f:Nat->List SV->Rs):Rs:=AV.rec (motive:=λ_=>Rs) (λ_=> .no) (λ_=> .no) (λ_=> .no) f x
abbrev Cl:=Nat->List AV->Mem->Rs
abbrev Kt:=AV->Mem->Rs
abbrev Gt:=En->(AV->Rs)->Rs
abbrev Hd:=Cl->En->Mem->Kt->Rs
structure Wg where
 f:Gt
structure Wgs where
 f:En->(List AV->Rs)->Rs
structure Wps where
 f:En->List SV->(List SV->Rs)->Rs
structure Wh where
 f:Hd
abbrev Kr:=En->Mem->Rs
structure Wo where
 f:Cl->En->Mem->Kr->Rs
structure Wc where
 f:Cl->Nat->En->Mem->Rs
def Zs:Wg:=⟨λ_ _=> .no⟩
def gL:Wh:=⟨λ_ _ _ _=> .no⟩
def jt (k:IntKind):Nat:=IntKind.rec (motive:=λ_=>Nat) 127 32767 2147483647 9223372036854775807 255 65535 4294967295 18446744073709551615 k
def fwB (n:Nat):Nat:=match n with
 |0=>0
 |n+1=>Nat.add (Nat.mul (Nat.add (Nat.log2 (n+1)) 1022) 4503599627370496) (Nat.mul (n+1) (Nat.pow 2 (Nat.sub 52 (Nat.log2 (n+1)))))
def X9 (b:Nat):Nat:=match Nat.beq b 0 with
 |true=>0
 |false=>Nat.div (Nat.add (Nat.mod b 4503599627370496) 4503599627370496) (Nat.pow 2 (Nat.sub 1075 (Nat.div b 4503599627370496)))
def cS:Value->Option SV
 | .bool b=>some (.b b)
 | .int k (.ofNat n)=>match Nat.ble n (jt k)with
  |true=>some (.n k n)
  |false=>none
 | .int k (.negSucc n)=>match k.signed&&Nat.ble n (jt k)with
  |true=>some (.m k n)
  |false=>none
 | .string s=>match Nat.ble s.data.toList.length maxLen with
  |true=>some (.s (s.data.toList.map UInt8.toNat))
  |false=>none
 | .pointer none=>some .p0
 | .float .f64 b=>match Nat.ble (X9 b) 1099511627776&&Nat.beq (fwB (X9 b)) b with
  |true=>some (.fl (X9 b))
  |false=>none
 | .slice none 0 0=>some .l0
 | .complex .f64 0 0=>some (.cx 0 0)
 | .nilIface=>some .i0
 |_=>none
def cL (l:List Value):Option (List SV):=List.rec (motive:=λ_=>Option (List SV)) (some []) (λx _ d=>match cS x,d with
 |some a,some r=>some (a::r)
 |_,_=>none) l
def cA:Value->Option AV
 | .agg cs=>match cL cs.toList with
  |some l=>some (.g l)
  |none=>none
 |v=>match cS v with
  |some x=>some (.v x)
  |none=>none
section
variable {γ:Type}
def cN (n:Nat) (k:Nat->γ):γ:=Nat.rec (motive:=λ_=>γ) (k 0) (λm _=>k m) (Nat.add n 1)
def cU (l:List Nat) (k:List Nat->γ):γ:=List.rec (motive:=λ_=>(List Nat->γ)->γ) (λk=>k []) (λx _ a k=>cN x λx=>a λr=>k (x::r)) l k
def cV (x:SV) (k:SV->γ):γ:=match x with
 | .s l=>cU l λl=>k (.s l)
 | .n i a=>cN a λa=>k (.n i a)
 | .m i a=>cN a λa=>k (.m i a)
 |x=>k x
def Ss (l:List SV) (k:List SV->γ):γ:=List.rec (motive:=λ_=>(List SV->γ)->γ) (λk=>k []) (λx _ a k=>cV x λx=>a λr=>k (x::r)) l k
end
def gtC (x:AV):Wg:=match x with
 | .v x=>cV x λx=>⟨λ_ k=>k (.v x)⟩
 | .g l=>Ss l λl=>⟨λ_ k=>k (.g l)⟩
 |_=>Zs
def Qq (m t:Nat):Wg:=match kept m t with
 |true=>⟨λe k=>LL t e.vs k⟩
 |false=>⟨λe k=>LL t e.ts k⟩
def iz (m:Nat) (x:Operand):Wg:=match x with
 | .tmp t=>Qq m t
 | .const v=>match cA v with
  |some a=>gtC a
  |none=>Zs
 | .func f=>⟨λ_ k=>k (.f f [])⟩
 | .global _=>Zs
def Pj (m:Nat) (l:List Operand):Wgs:=List.rec (motive:=λ_=>Wgs) ⟨λ_ k=>k []⟩ (λx _ r=>⟨λe k=>(iz m x).f e λv=>r.f e λl=>k (v::l)⟩) l
def zA (t:TypeId):Option (List SV):=match(prog.info? t).bind (·.zero)with
 |some v=>match cA v with
  |some (.v x)=>some [x]
  |some (.g l)=>some l
  |_=>none
 |none=>none
def size (t:TypeId):Option Nat:=match one t with
 |true=>some 1
 |false=>get ks t
def nu (x:SV):Bool:=SV.rec (motive:=λ_=>Bool) (λ_ _=>true) (λ_ _=>true) (λ_=>true) (λ_=>true) true (λ_ _=>true) true (λ_ _ _ _=>true) (λ_ _ _ _ _=>true) (λ_ _ _ _=>true) false (λ_=>true) (λ_ _=>true) (λ_=>true) true (λ_ _=>true) (λ_=>true) x
def YE (x:SV) (r:Rs):Rs:=jb (nu x) r
def arr (t:TypeId):Option (Nat×Nat):=match prog.underlying t with
 |some (.array n e)=>match size e with
  |some z=>some (n,z)
  |none=>none
 |_=>none
def ux (t:TypeId) (k:Nat):Option (Nat×TypeId):=match prog.underlying t with
 |some (.struct fs)=>match fs[k]? with
  |some f=>some (f.offset,f.type)
  |none=>none
 |_=>none
def elemOf (t:TypeId):Option (TypeId×Nat):=match prog.underlying t with
 |some (.slice e)=>match size e with
  |some z=>some (e,z)
  |none=>none
 |_=>none
def kn (k:IntKind):Nat:=IntKind.rec (motive:=λ_=>Nat) 0 1 2 3 4 5 6 7 k
def sI (k a:IntKind) (r:Rs):Rs:=jb (Nat.beq (kn k) (kn a)) r
def Yb (a:Mem) (c:Kt) (k:IntKind) (s:Nat):Rs:=IntKind.rec (motive:=λ_=>Nat->Rs) (λs=>jb (Nat.ble s 127) (c (.v (.n .i8 s)) a)) (λs=>jb (Nat.ble s 32767) (c (.v (.n .i16 s)) a)) (λs=>jb (Nat.ble s 2147483647) (c (.v (.n .i32 s)) a)) (λs=>jb (Nat.ble s 9223372036854775807) (c (.v (.n .i64 s)) a)) (λs=>fN (Nat.mod s 256) λs=>c (.v (.n .u8 s)) a) (λs=>fN (Nat.mod s 65536) λs=>c (.v (.n .u16 s)) a) (λs=>fN (Nat.mod s 4294967296) λs=>c (.v (.n .u32 s)) a) (λs=>fN (Nat.mod s 18446744073709551616) λs=>c (.v (.n .u64 s)) a) k s
def wrM (a:Mem) (c:Kt) (k:IntKind) (s:Nat):Rs:=IntKind.rec (motive:=λ_=>Nat->Rs) (λs=>jb (Nat.ble s 127) (c (.v (.m .i8 s)) a)) (λs=>jb (Nat.ble s 32767) (c (.v (.m .i16 s)) a)) (λs=>jb (Nat.ble s 2147483647) (c (.v (.m .i32 s)) a)) (λs=>jb (Nat.ble s 9223372036854775807) (c (.v (.m .i64 s)) a)) (λs=>fN (Nat.sub 255 (Nat.mod s 256)) λs=>c (.v (.n .u8 s)) a) (λs=>fN (Nat.sub 65535 (Nat.mod s 65536)) λs=>c (.v (.n .u16 s)) a) (λs=>fN (Nat.sub 4294967295 (Nat.mod s 4294967296)) λs=>c (.v (.n .u32 s)) a) (λs=>fN (Nat.sub 18446744073709551615 (Nat.mod s 18446744073709551616)) λs=>c (.v (.n .u64 s)) a) k s
def RX (a:Mem) (c:Kt) (k:IntKind) (s:Int):Rs:=Int.rec (motive:=λ_=>Rs) (λs=>fN s λs=>Yb a c k s) (λs=>fN s λs=>wrM a c k s) s
def M9 (x:AV) (f:IntKind->Int->Rs):Rs:=AV.rec (motive:=λ_=>Rs) (λx=>SV.rec (motive:=λ_=>Rs) (λk a=>f k (.ofNat a)) (λk a=>f k (.negSucc a)) (λ_=> .no) (λ_=> .no) .no (λ_ _=> .no) .no (λ_ _ _ _=> .no) (λ_ _ _ _ _=> .no) (λ_ _ _ _=> .no) .no (λ_=> .no) (λ_ _=> .no) (λ_=> .no) .no (λ_ _=> .no) (λ_=> .no) x) (λ_=> .no) (λ_=> .no) (λ_ _=> .no) x
def iiK (f:IntKind->Nat->Nat->Rs) (g:IntKind->Int->Int->Rs) (x y:AV):Rs:=AV.rec (motive:=λ_=>Rs) (λx=>SV.rec (motive:=λ_=>Rs) (λk a=>AV.rec (motive:=λ_=>Rs) (λy=>SV.rec (motive:=λ_=>Rs) (λd b=>sI k d (f k a b)) (λd b=>sI k d (g k (.ofNat a) (.negSucc b))) (λ_=> .no) (λ_=> .no) .no (λ_ _=> .no) .no (λ_ _ _ _=> .no) (λ_ _ _ _ _=> .no) (λ_ _ _ _=> .no) .no (λ_=> .no) (λ_ _=> .no) (λ_=> .no) .no (λ_ _=> .no) (λ_=> .no) y) (λ_=> .no) (λ_=> .no) (λ_ _=> .no) y) (λk a=>M9 y λd b=>sI k d (g k (.negSucc a) b)) (λ_=> .no) (λ_=> .no) .no (λ_ _=> .no) .no (λ_ _ _ _=> .no) (λ_ _ _ _ _=> .no) (λ_ _ _ _=> .no) .no (λ_=> .no) (λ_ _=> .no) (λ_=> .no) .no (λ_ _=> .no) (λ_=> .no) x) (λ_=> .no) (λ_=> .no) (λ_ _=> .no) x
def nnK (f:IntKind->Nat->Nat->Rs) (x y:AV):Rs:=tX x λk a=>tX y λ_ b=>f k a b
def nkK (f:IntKind->Nat->Nat->Rs) (x y:AV):Rs:=tX x λk a=>tX y λd b=>sI k d (f k a b)
def bK (a:Mem) (c:Kt) (b:Bool):Rs:=Bool.rec (motive:=λ_=>Rs) (c (.v (.b false)) a) (c (.v (.b true)) a) b
def nt (b:Bool):Bool:=Bool.rec (motive:=λ_=>Bool) true false b
def bI (a b:Int):Bool:=Int.rec (motive:=λ_=>Bool) (λm=>Int.rec (motive:=λ_=>Bool) (λn=>Nat.ble (Nat.add m 1) n) (λ_=>false) b) (λm=>Int.rec (motive:=λ_=>Bool) (λ_=>true) (λn=>Nat.ble (Nat.add n 1) m) b) a
def eI (a b:Int):Bool:=Int.rec (motive:=λ_=>Bool) (λm=>Int.rec (motive:=λ_=>Bool) (λn=>Nat.beq m n) (λ_=>false) b) (λm=>Int.rec (motive:=λ_=>Bool) (λ_=>false) (λn=>Nat.beq m n) b) a
def eU (a:List Nat):List Nat->Bool:=List.rec (motive:=λ_=>List Nat->Bool) (λb=>List.rec (motive:=λ_=>Bool) true (λ_ _ _=>false) b) (λx _ d b=>List.rec (motive:=λ_=>Bool) false (λy r _=>Bool.rec (motive:=λ_=>Bool) false (d r) (Nat.beq x y)) b) a
def ltU (a:List Nat):List Nat->Bool:=List.rec (motive:=λ_=>List Nat->Bool) (λb=>List.rec (motive:=λ_=>Bool) false (λ_ _ _=>true) b) (λx _ d b=>List.rec (motive:=λ_=>Bool) false (λy r _=>Bool.rec (motive:=λ_=>Bool) (Nat.ble (Nat.add x 1) y) (d r) (Nat.beq x y)) b) a
def eB (a b:Bool):Bool:=Bool.rec (motive:=λ_=>Bool) (nt b) b a
def eN (k a:IntKind) (b:Bool):Option Bool:=Bool.rec (motive:=λ_=>Option Bool) none (some b) (Nat.beq (kn k) (kn a))
def eF (f:Bool):SV->SV->Option Bool:=match f with
 |true=>λx y=>match x,y with
  | .s a,.s b=>some (eU a b)
  |_,_=>none
 |false=>λx y=>match x,y with
  | .n k a,.n d b=>eN k d (Nat.beq a b)
  | .m k a,.m d b=>eN k d (Nat.beq a b)
  | .n k _,.m d _=>eN k d false
  | .m k _,.n d _=>eN k d false
  |_,_=>none
def eT (fl:List Bool):List SV->List SV->Option Bool:=List.rec (motive:=λ_=>List SV->List SV->Option Bool) (λa b=>match a,b with
 |[],[]=>some true
 |_,_=>none) (λf _ d a b=>match a,b with
 |x::a,y::b=>match eF f x y,d a b with
  |some p,some q=>some (p&&q)
  |_,_=>none
 |_,_=>none) fl
def oB (a:Mem) (c:Kt) (w:Bool) (x:Option Bool):Rs:=match x with
 |some b=>bK a c (eB w b)
 |none=> .no
def cmK (f:Int->Int->Bool) (m:List Nat->List Nat->Bool) (w:Bool) (d:Mem) (c:Kt) (x y:AV):Rs:=AV.rec (motive:=λ_=>Rs) (λx=>SV.rec (motive:=λ_=>Rs) (λk a=>M9 y λg b=>sI k g (bK d c (eB w (f (.ofNat a) b)))) (λk a=>M9 y λg b=>sI k g (bK d c (eB w (f (.negSucc a) b)))) (λ_=> .no) (λa=>I7 y λb=>bK d c (eB w (m a b))) .no (λ_ _=> .no) .no (λ_ _ _ _=> .no) (λ_ _ _ _ _=> .no) (λ_ _ _ _=> .no) .no (λa=>Yo y λb=>bK d c (eB w (f (.ofNat a) (.ofNat b)))) (λ_ _=> .no) (λ_=> .no) .no (λ_ _=> .no) (λ_=> .no) x) (λ_=> .no) (λ_=> .no) (λ_ _=> .no) x
def Zn (a:Int->Int->Bool) (d:List Nat->List Nat->Bool) (w:Bool) (m:Nat) (x y:Operand):Wh:=⟨λ_ e g c=>(iz m x).f e λx=>(iz m y).f e λy=>cmK a d w g c x y⟩
def ltW (w:Bool) (m:Nat) (x y:Operand):Wh:=Zn bI ltU w m x y
def onQ (x:AV) (f0:Rs) (f:Nat->Nat->Rs):Rs:=AV.rec (motive:=λ_=>Rs) (λx=>SV.rec (motive:=λ_=>Rs) (λ_ _=> .no) (λ_ _=> .no) (λ_=> .no) (λ_=> .no) f0 f .no (λ_ _ _ _=> .no) (λ_ _ _ _ _=> .no) (λ_ _ _ _=> .no) .no (λ_=> .no) (λ_ _=> .no) (λ_=> .no) .no (λ_ _=> .no) (λ_=> .no) x) (λ_=> .no) (λ_=> .no) (λ_ _=> .no) x
def eqQ (w:Bool) (a:Mem) (c:Kt) (x y:AV):Rs:=onQ x (onQ y (bK a c w) λ_ _=>bK a c (nt w)) λ_ _=>onQ y (bK a c (nt w)) λ_ _=> .no
def onJ (x:AV) (f:Rs):Rs:=AV.rec (motive:=λ_=>Rs) (λx=>SV.rec (motive:=λ_=>Rs) (λ_ _=> .no) (λ_ _=> .no) (λ_=> .no) (λ_=> .no) .no (λ_ _=> .no) .no (λ_ _ _ _=> .no) (λ_ _ _ _ _=> .no) (λ_ _ _ _=> .no) .no (λ_=> .no) (λ_ _=> .no) (λ_=> .no) f (λ_ _=> .no) (λ_=> .no) x) (λ_=> .no) (λ_=> .no) (λ_ _=> .no) x
def X8 (w:Bool) (m:Nat) (x y:Operand):Wh:=match y with
 | .const .nilIface=>⟨λ_ e a c=>(iz m x).f e λx=>onJ x (bK a c w)⟩
 |_=>gL
def eqZ (w:Bool) (a:Mem) (c:Kt) (x y:AV):Rs:=LI y (LI x (bK a c w) (λ_ _ _ _=>bK a c (nt w)) (λ_ _ _ _ _=>bK a c (nt w)) .no (λ_=> .no) λ_ _=> .no) (λ_ _ _ _=> .no) (λ_ _ _ _ _=> .no) .no (λ_=> .no) λ_ _=> .no
def eqC (w:Bool) (a:Mem) (c:Kt) (x y:AV):Rs:=U9 x (U9 y (bK a c w) (bK a c (nt w))) (U9 y (bK a c (nt w)) (bK a c w))
def flat (fs:List Field):Nat->Option (List Bool):=List.rec (motive:=λ_=>Nat->Option (List Bool)) (λ_=>some []) (λf _ a k=>match Nat.beq f.offset k&&f.name != "_" &&prog.plainKey f.type,a (Nat.add k 1)with
 |true,some r=>match kindOf f.type,fC f.type with
  |some _,_=>some (false::r)
  |none,true=>some (true::r)
  |none,false=>none
 |_,_=>none) fs
def peq (t:TypeId):Option (List Bool):=match prog.eqGuardType prog.depth t with
 |true=>none
 | false=>match prog.stoodInHeld t with
  |true=>none
  | false=>match prog.underlying t with
   |some (.struct fs)=>flat fs.toList 0
   |some (.array n e)=>match(kindOf e).isSome&&one e&&prog.plainKey e with
    |true=>some (List.replicate n false)
    |false=>none
   |_=>none
def eqG (fl:List Bool) (w:Bool) (a:Mem) (c:Kt) (x y:AV):Rs:=VW x λx=>VW y λy=>oB a c w (eT fl x y)
def Ui (f:Mem->Kt->AV->AV->Rs) (m:Nat) (x y:Operand):Wh:=⟨λ_ e a c=>(iz m x).f e λx=>(iz m y).f e λy=>f a c x y⟩
def Yn (w:Bool) (m:Nat) (t:TypeId) (x y:Operand):Wh:=match prog.underlying t with
 |some .bool=>Ui (eqC w) m x y
 |some (.pointer _)=>Ui (eqQ w) m x y
 |some (.slice _)=>Ui (eqZ w) m x y
 |some (.interface _)=>X8 w m x y
 |some (.struct _)=>match peq t with
  |some fl=>Ui (eqG fl w) m x y
  |none=>gL
 |some (.array _ _)=>match peq t with
  |some fl=>Ui (eqG fl w) m x y
  |none=>gL
 |_=>Zn eI eU w m x y
def arW (f:Nat->Nat->Nat) (g:Int->Int->Int) (m:Nat) (x y:Operand):Wh:=⟨λ_ e d c=>(iz m x).f e λx=>(iz m y).f e λy=>iiK (λk a b=>fN (f a b) λs=>Yb d c k s) (λk a b=>RX d c k (g a b)) x y⟩
def suK (d:Mem) (c:Kt) (k:IntKind) (a b:Nat):Rs:=yQ (Nat.ble b a) (fN (Nat.sub a b) λs=>c (.v (.n k s)) d) (fN (Nat.sub (Nat.sub b a) 1) λs=>wrM d c k s)
def suW (m:Nat) (x y:Operand):Wh:=⟨λ_ e d c=>(iz m x).f e λx=>(iz m y).f e λy=>iiK (suK d c) (λk a b=>RX d c k (Int.sub a b)) x y⟩
def dvW (f:Nat->Nat->Nat) (m:Nat) (x y:Operand):Wh:=⟨λ_ e d c=>(iz m x).f e λx=>(iz m y).f e λy=>nkK (λk a b=>jb (Nat.ble 1 b) (fN (f a b) λs=>c (.v (.n k s)) d)) x y⟩
def Zr (f:Nat->Nat->Nat) (m:Nat) (x y:Operand):Wh:=⟨λ_ e d c=>(iz m x).f e λx=>(iz m y).f e λy=>nkK (λk a b=>fN (f a b) λs=>c (.v (.n k s)) d) x y⟩
def anN (a b:Nat):Nat:=Nat.xor a (Nat.land a b)
def kb (k:IntKind):Nat:=IntKind.rec (motive:=λ_=>Nat) 8 16 32 64 8 16 32 64 k
def shW (m:Nat) (x y:Operand):Wh:=⟨λ_ e d c=>(iz m x).f e λx=>(iz m y).f e λy=>nnK (λk a b=>jb (Nat.ble b (kb k)) (fN (Nat.shiftLeft a b) λs=>Yb d c k s)) x y⟩
def srW (m:Nat) (x y:Operand):Wh:=⟨λ_ e d c=>(iz m x).f e λx=>(iz m y).f e λy=>nnK (λk a b=>jb (Nat.ble b (kb k)) (fN (Nat.shiftRight a b) λs=>c (.v (.n k s)) d)) x y⟩
def adK (f:Mem) (c:Kt) (x y:AV):Rs:=AV.rec (motive:=λ_=>Rs) (λx=>SV.rec (motive:=λ_=>Rs) (λk a=>AV.rec (motive:=λ_=>Rs) (λy=>SV.rec (motive:=λ_=>Rs) (λd b=>sI k d (fN (Nat.add a b) λs=>Yb f c k s)) (λd b=>sI k d (RX f c k (Int.add (.ofNat a) (.negSucc b)))) (λ_=> .no) (λ_=> .no) .no (λ_ _=> .no) .no (λ_ _ _ _=> .no) (λ_ _ _ _ _=> .no) (λ_ _ _ _=> .no) .no (λ_=> .no) (λ_ _=> .no) (λ_=> .no) .no (λ_ _=> .no) (λ_=> .no) y) (λ_=> .no) (λ_=> .no) (λ_ _=> .no) y) (λk a=>M9 y λd b=>sI k d (RX f c k (Int.add (.negSucc a) b))) (λ_=> .no) (λa=>I7 y λb=>jb (Nat.ble (a++b).length maxLen) (fP (a++b) λs=>c (.v (.s s)) f)) .no (λ_ _=> .no) .no (λ_ _ _ _=> .no) (λ_ _ _ _ _=> .no) (λ_ _ _ _=> .no) .no (λ_=> .no) (λ_ _=> .no) (λ_=> .no) .no (λ_ _=> .no) (λ_=> .no) x) (λ_=> .no) (λ_=> .no) (λ_ _=> .no) x
def adW (m:Nat) (x y:Operand):Wh:=⟨λ_ e a c=>(iz m x).f e λx=>(iz m y).f e λy=>adK a c x y⟩
def uns (k:IntKind):Bool:=IntKind.rec (motive:=λ_=>Bool) false false false false true true true true k
def Ea (a:Mem) (c:Kt) (k:IntKind):Rs:=jb (uns k) (SY a ⟨0,0,0,.nil⟩ λid a=>c (.v (.x k id)) a)
def XR (x:AV):Option IntKind:=match x with
 | .v (.x k _)=>some k
 |_=>none
def nkO (x:AV):Option IntKind:=match x with
 | .v (.x k _)=>some k
 | .v (.n k _)=>some k
 |_=>none
def xuK (f:Mem) (c:Kt) (old:Rs) (a b:AV):Rs:=match XR a with
 |some k=>match nkO b with
  |some d=>sI k d (Ea f c k)
  |none=> .no
 | none=>match XR b with
  |some k=>match nkO a with
   |some d=>sI k d (Ea f c k)
   |none=> .no
  |none=>old
def X3 (m:Nat) (x y:Operand) (w:Wh):Wh:=⟨λg e d c=>(iz m x).f e λa=>(iz m y).f e λb=>xuK d c (w.f g e d c) a b⟩
def xrK (f:Mem) (c:Kt) (old:Rs) (a b:AV):Rs:=match XR a with
 |some k=>tX b λd n=>sI k d (jb (Nat.ble 1 n) (Ea f c k))
 |none=>old
def xrW (m:Nat) (x y:Operand) (w:Wh):Wh:=⟨λg e d c=>(iz m x).f e λa=>(iz m y).f e λb=>xrK d c (w.f g e d c) a b⟩
def xsK (d:Mem) (c:Kt) (old:Rs) (a b:AV):Rs:=match XR a with
 |some k=>tX b λ_ n=>jb (Nat.ble n (kb k)) (Ea d c k)
 |none=>old
def Y4 (m:Nat) (x y:Operand) (w:Wh):Wh:=⟨λg e d c=>(iz m x).f e λa=>(iz m y).f e λb=>xsK d c (w.f g e d c) a b⟩
def YC (x:AV):Option (List Nat):=match x with
 | .v (.sl l)=>some l
 |_=>none
def slS (x:AV):Option (List Nat):=match x with
 | .v (.sl l)=>some l
 | .v (.s l)=>some l
 |_=>none
def slK (d:Mem) (c:Kt) (a b:AV):Rs:=match slS a,slS b with
 |some l,some r=>jb (Nat.ble (l++r).length maxLen) (fP (l++r) λl=>c (.v (.sl l)) d)
 |_,_=> .no
def laK (d:Mem) (c:Kt) (old:Rs) (a b:AV):Rs:=match YC a,YC b with
 |none,none=>old
 |_,_=>slK d c a b
def laW (m:Nat) (x y:Operand) (w:Wh):Wh:=⟨λg e d c=>(iz m x).f e λa=>(iz m y).f e λb=>laK d c (w.f g e d c) a b⟩
def byX (a:Mem) (c:Kt) (q:Nat):Rs:=yQ (Nat.ble 256 q) (fN (Nat.sub q 256) λid=>c (.v (.x .u8 id)) a) (c (.v (.n .u8 q)) a)
def biW (m:Nat) (t:TypeId) (op:BinOp) (x y:Operand):Wh:=match op with
 | .add=>X3 m x y (laW m x y (adW m x y))
 | .sub=>suW m x y
 | .mul=>X3 m x y (arW Nat.mul Int.mul m x y)
 | .quo=>dvW Nat.div m x y
 | .rem=>xrW m x y (dvW Nat.mod m x y)
 | .and=>Zr Nat.land m x y
 | .or=>X3 m x y (Zr Nat.lor m x y)
 | .xor=>X3 m x y (Zr Nat.xor m x y)
 | .andNot=>Zr anN m x y
 | .shl=>Y4 m x y (shW m x y)
 | .shr=>Y4 m x y (srW m x y)
 | .eql=>Yn true m t x y
 | .neq=>Yn false m t x y
 | .lss=>ltW true m x y
 | .geq=>ltW false m x y
 | .gtr=>ltW true m y x
 | .leq=>ltW false m y x
def pkW (m:Nat) (x a b:Operand):Wh:=⟨λ_ e d c=>(iz m x).f e λx=>(iz m a).f e λa=>(iz m b).f e λb=>U9 x (c a d) (c b d)⟩
def fdW (m:Nat) (x:Operand) (off:Option Nat):Wh:=match off with
 |some off=>cN off λoff=>⟨λ_ e a c=>(iz m x).f e λx=>Mp x λid o=>fN (Nat.add o off) λo=>c (.v (.p id o)) a⟩
 |none=>gL
def ixS (d:Mem) (c:Kt) (a id z j n i:Nat):Rs:=jb (Nat.ble (Nat.add i 1) n) (fN (Nat.add (Nat.mul j z) (Nat.mul i a)) λo=>c (.v (.p id o)) d)
def ixW (m:Nat) (t:TypeId) (x i:Operand):Wh:=match arr t with
 |some (n,z)=>cN z λz=>cN n λn=>⟨λ_ e d c=>(iz m x).f e λx=>(iz m i).f e λi=>Mp x λid o=>tX i λ_ i=>jb (Nat.ble (Nat.add i 1) n) (fN (Nat.add o (Nat.mul i z)) λo=>c (.v (.p id o)) d)⟩
 |none=>match es t with
  |some a=>cN a λa=>⟨λ_ e d c=>(iz m x).f e λx=>(iz m i).f e λi=>tX i λ_ i=>LI x .no (λid z j n=>ixS d c a id z j n i) (λid z j n _=>ixS d c a id z j n i) .no (λ_=> .no) λ_ _=> .no⟩
  |none=>gL
def unW (m:Nat) (op:UnOp) (x:Operand):Wh:=match op with
 | .not=>⟨λ_ e a c=>(iz m x).f e λx=>U9 x (c (.v (.b false)) a) (c (.v (.b true)) a)⟩
 | .neg=>⟨λ_ e a c=>(iz m x).f e λx=>M9 x λk n=>RX a c k (Int.neg n)⟩
 |_=>gL
def Mb {α:Type} (l:List α) (i:Nat) (c:α->Rs):Rs:=List.rec (motive:=λ_=>Nat->Rs) (λ_=> .no) (λx _ a i=>Nat.rec (motive:=λ_=>Rs) (c x) (λi _=>a i) i) l i
def exW (m:Nat) (x:Operand) (k:Nat):Wh:=⟨λ_ e a c=>(iz m x).f e λx=>onT x λl=>Mb l k λx=>TV.rec (motive:=λ_=>Rs) (λx=>c (.v x) a) (λl=>c (.g l) a) x⟩
def sub (l:List SV) (o n:Nat):List SV:=(l.drop o).take n
def flW (m:Nat) (x:Operand) (f:Option (Nat×TypeId)):Wh:=match f with
 | some (o,u)=>match one u with
  |true=>cN o λo=>⟨λ_ e a c=>(iz m x).f e λx=>VW x λl=>Mb l o λx=>c (.v x) a⟩
  |false=>match get ks u with
   |some n=>cN o λo=>cN n λn=>⟨λ_ e a c=>(iz m x).f e λx=>VW x λl=>jb (Nat.ble (Nat.add o n) l.length) (fP (sub l o n) λl=>c (.g l) a)⟩
   |none=>gL
 |none=>gL
def elW (m:Nat) (t:TypeId) (x i:Operand):Wh:=match prog.underlying t with
 | some (.array n el)=>match one el with
  |true=>cN n λn=>⟨λ_ e a c=>(iz m x).f e λx=>(iz m i).f e λi=>VW x λl=>tX i λ_ i=>jb (Nat.ble (Nat.add i 1) n) (Mb l i λx=>c (.v x) a)⟩
  |false=>match get ks el with
   |some z=>cN n λn=>cN z λz=>⟨λ_ e a c=>(iz m x).f e λx=>(iz m i).f e λi=>VW x λl=>tX i λ_ i=>jb (Nat.ble (Nat.add i 1) n) (jb (Nat.ble (Nat.mul n z) l.length) (fP (sub l (Nat.mul i z) z) λl=>c (.g l) a))⟩
   |none=>gL
 | some .string=>match fC t with
  |true=>⟨λ_ e a c=>(iz m x).f e λx=>(iz m i).f e λi=>match YC x with
   |some l=>tX i λ_ i=>Mb l i λq=>byX a c q
   |none=>I7 x λl=>tX i λ_ i=>Mb l i λx=>c (.v (.n .u8 x)) a⟩
  |false=>gL
 |_=>gL
def put (l:List SV) (o:Nat) (c:List SV):List SV:=l.take o++(c++l.drop (o+c.length))
def Yv (m:Nat) (off:Nat->Option (Nat×Nat)) (ps:List (Nat×Operand)):Wps:=List.rec (motive:=λ_=>Wps) ⟨λ_ l k=>k l⟩ (λp _ r=>match off p.1 with
 |some (o,z)=>⟨λe l k=>(iz m p.2).f e λv=>TM v (λx=>YE x (jb (Nat.beq z 1) (jb (Nat.ble (Nat.add o 1) l.length) (fP (put l o [x]) λl=>r.f e l k)))) λg=>jb (Nat.beq g.length z) (jb (Nat.ble (Nat.add o z) l.length) (fP (put l o g) λl=>r.f e l k))⟩
 |none=>⟨λ_ _ _=> .no⟩) ps
def bdW (m:Nat) (off:Nat->Option (Nat×Nat)) (ps:List (Nat×Operand)) (z:Option (List SV)):Wh:=match z with
 |some z=>Ss z λz=>⟨λ_ e a c=>(Yv m off ps).f e z λl=>c (.g l) a⟩
 |none=>gL
def YQ (z:Nat) (i:Nat):Option (Nat×Nat):=some (Nat.mul i z,z)
def aax (t:TypeId) (i:Nat):Option (Nat×Nat):=match ux t i with
 |some (o,u)=>match size u with
  |some z=>some (o,z)
  |none=>none
 |none=>none
def buW (m:Nat) (t:TypeId) (ps:List (Nat×Operand)):Wh:=match arr t with
 |some (_,s)=>bdW m (YQ s) ps (zA t)
 | none=>match prog.underlying t with
  |some (.struct _)=>match prog.built t []with
   |some _=>bdW m (aax t) ps (zA t)
   |none=>gL
  |_=>gL
def scK (l:List AV) (k:List SV->Rs):Rs:=List.rec (motive:=λ_=>(List SV->Rs)->Rs) (λk=>k []) (λx _ a k=>TM x (λx=>YE x (a λl=>k (x::l))) λ_=> .no) l k
def mfW (m:Nat) (fn:Fn) (a b:List Operand):Wh:=match fn with
 | .func f=>match a with
  |[]=>⟨λ_ e d c=>(Pj m b).f e λy=>scK y λl=>c (.f f l) d⟩
  |_=>gL
 |_=>gL
structure Wb where
 f:En->Nat->(Nat->Rs)->Rs
def ML (m:Nat) (x:Option Operand):Wb:=match x with
 |none=>⟨λ_ d k=>k d⟩
 |some x=>⟨λe _ k=>(iz m x).f e λv=>tX v λ_ n=>k n⟩
def acW (d:Mem) (c:Kt) (l:List Nat) (a b:Nat):Rs:=jb (Nat.ble a b) (jb (Nat.ble b l.length) (fP ((l.drop a).take (Nat.sub b a)) λl=>c (.v (.s l)) d))
def ZV (d:Mem) (c:Kt) (id z j n a b:Nat):Rs:=jb (Nat.ble a b) (yQ (Nat.ble b n) (yQ (Nat.ble (Nat.add a 1) n) (fN (Nat.add j a) λi=>fN (Nat.sub b a) λr=>c (.v (.l id z i r)) d) (yQ (Nat.beq a 0) (c (.v (.l id z j 0)) d) (c (.v (.le id z j a)) d))) (jb (Nat.ble (Nat.add a 1) b) (jb (Nat.ble 1 z) (J6 d id (Nat.sub (Nat.mul (Nat.add j b) z) 1) 1 λ_=>fN (Nat.add j a) λi=>fN (Nat.sub b a) λr=>c (.v (.l id z i r)) d))))
def Rz (d:Mem) (c:Kt) (id z j m a b:Nat):Rs:=jb (Nat.ble a b) (jb (Nat.ble b m) (yQ (Nat.ble (Nat.add a 1) m) (fN (Nat.add j a) λi=>fN (Nat.sub b a) λr=>fN (Nat.sub m a) λq=>c (.v (.lx id z i r q)) d) (c (.v (.lx id z j 0 0)) d)))
def ady (d:Mem) (c:Kt) (a b:Nat):Rs:=jb (Nat.beq a 0) (jb (Nat.beq b 0) (c (.v .l0) d))
def Ur (z a:Nat) (r:Rs):Rs:=jb (Nat.beq z a) r
def slW (m:Nat) (t:TypeId) (x:Operand) (lo hi s:Option Operand):Wh:=match fC t with
 |true=>match s with
  |none=>⟨λ_ e d c=>(iz m x).f e λx=>(ML m lo).f e 0 λa=>I7 x λl=>fN l.length λn=>(ML m hi).f e n λb=>acW d c l a b⟩
  |some _=>gL
 | false=>match es t with
  | some g=>cN g λg=>match s with
   |none=>⟨λ_ e d c=>(iz m x).f e λx=>(ML m lo).f e 0 λa=>LI x ((ML m hi).f e 0 λb=>ady d c a b) (λid z j n=>Ur z g ((ML m hi).f e n λb=>ZV d c id z j n a b)) (λid z j n q=>Ur z g ((ML m hi).f e n λb=>Rz d c id z j q a b)) .no (λ_=> .no) λ_ _=> .no⟩
   |some s=>match hi with
    |some hi=>⟨λ_ e d c=>(iz m x).f e λx=>(ML m lo).f e 0 λa=>(ML m (some hi)).f e 0 λb=>(ML m (some s)).f e 0 λq=>LI x .no (λid z j n=>Ur z g (jb (Nat.ble q n) (Rz d c id z j q a b))) (λid z j _ q0=>Ur z g (jb (Nat.ble q q0) (Rz d c id z j q a b))) .no (λ_=> .no) λ_ _=> .no⟩
    |none=>gL
  |none=>match arr t,s with
   |some (n,1),none=>cN n λn=>⟨λ_ e d c=>(iz m x).f e λx=>(ML m lo).f e 0 λa=>(ML m hi).f e n λb=>Mp x λid o=>jb (Nat.ble n maxLen) (Rz d c id 1 o n a b)⟩
   |_,_=>gL
def lnK (a:Mem) (c:Kt) (n:Nat):Rs:=jb (Nat.ble n 9223372036854775807) (c (.v (.n .i64 n)) a)
def YT (a:Mem) (c:Kt) (n:Nat):Rs:=fN n λn=>lnK a c n
def lnW (m:Nat) (t:TypeId) (x:Operand):Wh:=match fC t with
 |true=>⟨λ_ e a c=>(iz m x).f e λx=>match YC x with
  |some l=>YT a c l.length
  |none=>I7 x λl=>YT a c l.length⟩
 |false=>match es t with
  |some _=>⟨λ_ e a c=>(iz m x).f e λx=>LI x (c (.v (.n .i64 0)) a) (λ_ _ _ n=>lnK a c n) (λ_ _ _ n _=>lnK a c n) (c (.v (.n .i64 0)) a) (λ_=> .no) λ_ _=> .no⟩
  |none=>gL
def mnW (up:Bool) (m:Nat) (x y:Operand):Wh:=⟨λ_ e d c=>(iz m x).f e λx=>(iz m y).f e λy=>M9 x λk a=>M9 y λg b=>sI k g (yQ (eB up (bI a b)) (c y d) (c x d))⟩
def Ye (d:Mem) (z:Nat) (x:AV) (k:Nat->List SV->Rs):Rs:=LI x (k 0 []) (λid a j n=>J6 d id (Nat.mul j a) (Nat.mul n z) λl=>k n l) (λid a j n _=>J6 d id (Nat.mul j a) (Nat.mul n z) λl=>k n l) (k 0 []) (λ_=> .no) λ_ _=> .no
def stK (x:AV) (k:Nat->List SV->Rs):Rs:=I7 x λs=>fN s.length λn=>fP (s.map λc=> .n .u8 c) λl=>k n l
def ldW (m:Nat) (t:TypeId) (x:Operand):Wh:=match one t with
 |true=>⟨λ_ e a c=>(iz m x).f e λp=>Mp p λid o=>MS a id λs=>xr s.d o s.m λx=>c (.v x) a⟩
 |false=>match get ks t with
  |some n=>cN n λn=>⟨λ_ e a c=>(iz m x).f e λp=>Mp p λid o=>J6 a id o n λl=>c (.g l) a⟩
  |none=>gL
def TC (f:Mem) (c:Kt) (id o:Nat) (x:SV):Rs:=MS f id λa=>yM a.d o x a.m λm=>yM dI id ⟨a.e,a.d,a.n,m⟩ f.h λh=>c (.v .u) ⟨f.n,h,f.mp⟩
def stW (m:Nat) (t:TypeId) (x y:Operand):Wh:=match one t with
 |true=>⟨λ_ e a c=>(iz m x).f e λp=>(iz m y).f e λv=>Mp p λid o=>TM v (λx=>YE x (TC a c id o x)) λ_=> .no⟩
 |false=>match get ks t with
  |some n=>cN n λn=>⟨λ_ e a c=>(iz m x).f e λp=>(iz m y).f e λv=>Mp p λid o=>VW v λl=>jb (Nat.beq l.length n) (jb (Nat.ble 1 n) (RZ a id o l λa=>c (.v .u) a))⟩
  |none=>gL
def Y9 (t:TypeId) (z:Option (List SV)):Wh:=match z with
 |some z=>Ss z λz=>⟨λ_ _ a c=>qG a t z λid a=>c (.v (.p id 0)) a⟩
 |none=>gL
def bxW (m:Nat) (t:TypeId) (x:Operand):Wh:=⟨λ_ e a c=>(iz m x).f e λv=>TM v (λx=>YE x (qG a t [x] λid a=>c (.v (.p id 0)) a)) λl=>qG a t l λid a=>c (.v (.p id 0)) a⟩
def an (a b:Bool):Bool:=Bool.rec (motive:=λ_=>Bool) false b a
def rep (l:List SV) (n:Nat):List SV:=Nat.rec (motive:=λ_=>List SV) [] (λ_ a=>l++a) n
def rw0 (x:Option (TypeId×Nat)):Wh:=match x with
 |some (el,z)=>cN z λz=>⟨λ_ _ a c=>qG a el [] λid a=>c (.v (.lx id z 0 0 0)) a⟩
 |none=>gL
def rwW (m:Nat) (n:Nat) (ps:List (Nat×Operand)) (x:Option (TypeId×Nat)):Wh:=match n,ps with
 |0,[]=>rw0 x
 | n,ps=>match x with
  | some (el,z)=>match zA el with
   |some zs=>match an (Nat.beq zs.length z) (an (Nat.ble 1 n) (an (Nat.ble 1 z) (Nat.ble (Nat.mul n z) 16777216)))with
    |false=>gL
    |true=>cN z λz=>cN n λn=>Ss (rep zs n) λl=>⟨λ_ e a c=>(Yv m (YQ z) ps).f e l λl=>qG a el l λid a=>c (.v (.lx id z 0 n n)) a⟩
   |none=>gL
  |none=>gL
def few (t:TypeId):Bool:=match prog.info? t with
 |some i=>Nat.ble i.bytes 1000000
 |none=>false
def mkK (d:Mem) (c:Kt) (el z:Nat) (zs:List SV) (a b:AV):Rs:=tX a λ_ n=>tX b λ_ q=>jb (Nat.ble n q) (jb (Nat.ble q 65536) (fP (rep zs q) λl=>qG d el l λid d=>c (.v (.lx id z 0 n q)) d))
def mkW (m:Nat) (n q:Operand) (x:Option (TypeId×Nat)):Wh:=match x with
 | some (el,z)=>match few el,zA el with
  |true,some zs=>match Nat.beq zs.length z with
   |false=>gL
   |true=>cN z λz=>Ss zs λzs=>⟨λ_ e d c=>(iz m n).f e λa=>(iz m q).f e λb=>mkK d c el z zs a b⟩
  |_,_=>gL
 |none=>gL
def byK (l:List SV) (k:List Nat->Rs):Rs:=List.rec (motive:=λ_=>(List Nat->Rs)->Rs) (λk=>k []) (λx _ d k=>tX (.v x) λq a=>sI q .u8 (d λr=>k (a::r))) l k
def cvI (m:Nat) (k:IntKind) (x:Operand):Wh:=⟨λ_ e d c=>(iz m x).f e λv=>M9 v λ_ a=>RX d c k a⟩
def Xe (m:Nat) (s d:TypeId) (x:Operand):Wh:=match kindOf d with
 | some k=>match kindOf s with
  |some _=>cvI m k x
  |none=>match k,prog.underlying s with
   | .i64,some (.float .f64)=>⟨λ_ e g c=>(iz m x).f e λv=>Yo v λa=>c (.v (.n .i64 a)) g⟩
   |_,_=>gL
 | none=>match fC d with
  | true=>match fC s with
   |true=>⟨λ_ e g c=>(iz m x).f e λv=>I7 v λ_=>c v g⟩
   | false=>match elemOf s with
    |some (el,1)=>match kindOf el with
     |some .u8=>⟨λ_ e g c=>(iz m x).f e λv=>Ye g 1 v λ_ l=>byK l λl=>jb (Nat.ble l.length maxLen) (c (.v (.s l)) g)⟩
     |_=>gL
    |_=>gL
  | false=>match elemOf d with
   | some (el,1)=>match kindOf el with
    | some .u8=>match fC s with
     |true=>⟨λ_ e g c=>(iz m x).f e λv=>I7 v λl=>fN l.length λn=>jb (Nat.ble 1 n) (fP (l.map λc=> .n .u8 c) λr=>qG g el r λid g=>c (.v (.l id 1 0 n)) g)⟩
     |false=>match Nat.beq s d with
      |true=>⟨λ_ e g c=>(iz m x).f e λv=>LI v .no (λid _ _ _=>MS g id λt=>xr t.d 0 t.m λ_=>c v g) (λid _ _ _ _=>MS g id λt=>xr t.d 0 t.m λ_=>c v g) .no (λ_=> .no) λ_ _=> .no⟩
      |false=>gL
    |_=>gL
   |_=>match prog.underlying d,kindOf s with
    |some (.float .f64),some _=>⟨λ_ e g c=>(iz m x).f e λv=>tX v λ_ a=>jb (Nat.ble a 1099511627776) (c (.v (.fl a)) g)⟩
    |_,_=>gL
def apF (f:Mem) (c:Kt) (z id n q:Nat) (a:Ob) (new:List SV):Rs:=C1 a.d a.n new a.m λt=>fN (Nat.add a.n new.length) λk=>OA f id λf=>SY f ⟨a.e,a.d,k,t⟩ λid f=>fN (Nat.add n q) λn=>c (.v (.l id z 0 n)) f
def apS (a:Mem) (c:Kt) (el z id n q:Nat) (f:Ob) (new:List SV):Rs:=Yr f.d f.m 0 (Nat.mul n z) λold=>fP (old++new) λl=>OA a id λa=>qG a el l λid a=>fN (Nat.add n q) λn=>c (.v (.l id z 0 n)) a
def apL (f:Mem) (c:Kt) (el z id n q:Nat) (new:List SV):Rs:=MS f id λa=>jb (Nat.beq a.e el) (xr a.d 0 a.m λ_=>yQ (an (Nat.beq a.n (Nat.mul n z)) (Nat.ble (Nat.add a.n new.length) (Nat.shiftLeft 1 a.d))) (apF f c z id n q a new) (apS f c el z id n q a new))
def apX (a:Mem) (c:Kt) (el z id j n k q:Nat) (new:List SV):Rs:=yQ (Nat.ble (Nat.add n q) k) (fN (Nat.mul (Nat.add j n) z) λo=>RZ a id o new λa=>fN (Nat.add n q) λn=>c (.v (.lx id z j n k)) a) (J6 a id (Nat.mul j z) (Nat.mul n z) λold=>fP (old++new) λl=>qG a el l λid a=>fN (Nat.add n q) λn=>c (.v (.l id z 0 n)) a)
def apK (a:Mem) (c:Kt) (el z:Nat) (s:AV) (q:Nat) (new:List SV):Rs:=LI s (Nat.rec (motive:=λ_=>Rs) (c (.v .l0) a) (λ_ _=>jb (Nat.ble q 1000000) (qG a el new λid a=>c (.v (.l id z 0 q)) a)) q) (λid d j n=>jb (Nat.beq j 0) (Ur d z (jb (Nat.ble (Nat.add n q) 1000000) (Nat.rec (motive:=λ_=>Rs) (c s a) (λ_ _=>apL a c el z id n q new) q)))) (λid d j n k=>Ur d z (jb (Nat.ble (Nat.add n q) 1000000) (Nat.rec (motive:=λ_=>Rs) (c s a) (λ_ _=>apX a c el z id j n k q new) q))) .no (λ_=> .no) λ_ _=> .no
structure Ws where
 f:Mem->AV->(Nat->List SV->Rs)->Rs
def scW (el z:Nat) (t u:TypeId):Option Ws:=match fC u with
 |true=>match Nat.beq z 1,kindOf el with
  |true,some .u8=>some ⟨λ_=>stK⟩
  |_,_=>none
 |false=>match Nat.beq t u with
  |true=>some ⟨λa=>Ye a z⟩
  |false=>none
def apW (m:Nat) (t u:TypeId) (x y:Operand):Wh:=match elemOf t with
 | some (el,z)=>match few el,zA el with
  |true,some zs=>match Nat.beq zs.length z,Nat.ble 1 z,scW el z t u with
   |true,true,some r=>cN z λz=>⟨λ_ e a c=>(iz m x).f e λs=>(iz m y).f e λy=>r.f a y λq new=>apK a c el z s q new⟩
   |_,_,_=>gL
  |_,_=>gL
 |none=>gL
def cpT (a:Mem) (c:Kt) (z id d j n q:Nat) (new:List SV):Rs:=Ur d z (fN (Nat.min q n) λr=>Nat.rec (motive:=λ_=>Rs) (c (.v (.n .i64 0)) a) (λ_ _=>fP (new.take (Nat.mul r z)) λl=>fN (Nat.mul j z) λo=>RZ a id o l λa=>lnK a c r) r)
def cpK (a:Mem) (c:Kt) (z:Nat) (s:AV) (q:Nat) (new:List SV):Rs:=LI s (c (.v (.n .i64 0)) a) (λid d j n=>cpT a c z id d j n q new) (λid d j n _=>cpT a c z id d j n q new) (c (.v (.n .i64 0)) a) (λ_=> .no) λ_ _=> .no
def cpW (m:Nat) (t u:TypeId) (x y:Operand):Wh:=match elemOf t with
 |some (el,z)=>match Nat.ble 1 z,scW el z t u with
  |true,some r=>cN z λz=>⟨λ_ e a c=>(iz m x).f e λs=>(iz m y).f e λy=>r.f a y λq new=>cpK a c z s q new⟩
  |_,_=>gL
 |none=>gL
def clT (a:Mem) (c:Kt) (z:Nat) (zs:List SV) (id d j n:Nat):Rs:=Ur d z (Nat.rec (motive:=λ_=>Rs) (c (.t []) a) (λ_ _=>fP (rep zs n) λl=>fN (Nat.mul j z) λo=>RZ a id o l λa=>c (.t []) a) n)
def clW (m:Nat) (t:TypeId) (x:Operand):Wh:=match elemOf t with
 | some (el,z)=>match zA el with
  |some zs=>match Nat.beq zs.length z,Nat.ble 1 z with
   |true,true=>cN z λz=>Ss zs λzs=>⟨λ_ e a c=>(iz m x).f e λx=>LI x (c (.t []) a) (λid d j n=>clT a c z zs id d j n) (λid d j n _=>clT a c z zs id d j n) (c (.t []) a) (λ_=> .no) λ_ _=> .no⟩
   |_,_=>gL
  |none=>gL
 |none=>gL
def bfW (m:Nat) (b:Builtin) (a:List Operand) (ts:List TypeId):Wh:=match b,a,ts with
 | .len,[x],[t]=>lnW m t x
 | .append,[x,y],[t,u]=>apW m t u x y
 | .copy,[x,y],[t,u]=>cpW m t u x y
 | .clear,[x],[t]=>clW m t x
 | .complex,[x,y],[_,_]=>⟨λ_ e d c=>(iz m x).f e λx=>(iz m y).f e λy=>Yo x λa=>Yo y λb=>c (.v (.cx a b)) d⟩
 | .real,[x],[_]=>⟨λ_ e d c=>(iz m x).f e λx=>onX x λa _=>c (.v (.fl a)) d⟩
 | .imag,[x],[_]=>⟨λ_ e d c=>(iz m x).f e λx=>onX x λ_ b=>c (.v (.fl b)) d⟩
 | .min,[x,y],[_,_]=>mnW false m x y
 | .max,[x,y],[_,_]=>mnW true m x y
 |_,_,_=>gL
def rvK (c:Kt) (r:Rs):Rs:=Rs.rec (motive:=λ_=>Rs) .no (λx _ a=>Ex.rec (motive:=λ_=>Rs) .no (λ_=> .no) (λ_=> .no) .no (λv=>c v a) x) r
def PA:Option Nat:=some 246
def adR (d:Mem) (c:Kt) (x y z:AV):Rs:=tX x λk a=>sI k .u64 (tX y λk b=>sI k .u64 (tX z λk q=>sI k .u64 (jb (Nat.ble q 1) (fN (Nat.add (Nat.add a b) q) λs=>fN (Nat.mod s 18446744073709551616) λlo=>fN (Nat.div s 18446744073709551616) λhi=>c (.t [.v (.n .u64 lo),.v (.n .u64 hi)]) d))))
def ad3 (a:Mem) (c:Kt) (l:List AV):Rs:=List.rec (motive:=λ_=>Rs) .no (λx l _=>List.rec (motive:=λ_=>Rs) .no (λy l _=>List.rec (motive:=λ_=>Rs) .no (λz l _=>List.rec (motive:=λ_=>Rs) (adR a c x y z) (λ_ _ _=> .no) l) l) l) l
def caW (m:Nat) (k:Callee) (a:List Operand) (ts:List TypeId):Wh:=match k with
 | .value (.func f)=>match bit qs f with
  |true=>⟨λn e d c=>(Pj m a).f e λvs=>rvK c (n f vs d)⟩
  | false=>match PA with
   |some q=>match Nat.beq q f with
    |true=>⟨λ_ e d c=>(Pj m a).f e λvs=>ad3 d c vs⟩
    |false=>gL
   |none=>gL
 | .value (.tmp t)=>⟨λn e d c=>(Qq m t).f e λv=>(Pj m a).f e λvs=>onF v λg s=>jb (bit qs g) (fP (vs++s.map AV.v) λvs=>rvK c (n g vs d))⟩
 | .builtin b=>bfW m b a ts
 |_=>gL
def onM (x:AV) (f:Nat->Rs):Rs:=AV.rec (motive:=λ_=>Rs) (λx=>SV.rec (motive:=λ_=>Rs) (λ_ _=> .no) (λ_ _=> .no) (λ_=> .no) (λ_=> .no) .no (λ_ _=> .no) .no (λ_ _ _ _=> .no) (λ_ _ _ _ _=> .no) (λ_ _ _ _=> .no) .no (λ_=> .no) (λ_ _=> .no) f .no (λ_ _=> .no) (λ_=> .no) x) (λ_=> .no) (λ_=> .no) (λ_ _=> .no) x
def Hb {α:Type} (k:Nat) (l:List (Nat×α)):Option α:=List.rec (motive:=λ_=>Option α) none (λp _ a=>Bool.rec (motive:=λ_=>Option α) a (some p.2) (Nat.beq p.1 k)) l
def asK {α:Type} (x:Option α) (f:α->Rs):Rs:=match x with
 |some a=>f a
 |none=> .no
def Z4 (v:Option Value):Bool:=match v with
 |some (.int .i64 (.ofNat n))=>Nat.beq n 0
 |_=>false
def mpT (t:TypeId):Bool:=match prog.underlying t with
 |some (.map d a)=>match kindOf d with
  |some .i64=>Z4 ((prog.info? a).bind (·.zero))
  |_=>false
 |_=>false
def mpS (t:TypeId):Bool:=match prog.underlying t with
 |some (.map d a)=>match prog.underlying d with
  |some .string=>Z4 ((prog.info? a).bind (·.zero))
  |_=>false
 |_=>false
def mkM (t:TypeId):Wh:=match mpT t||mpS t with
 |true=>⟨λ_ _ a c=>fN (Nat.add a.n 1) λn=>c (.v (.mp a.n)) ⟨n,a.h,(a.n,[])::a.mp⟩⟩
 |false=>gL
def lkK (d:Mem) (c:Kt) (a:Nat) (l:List (Nat×Nat)):Rs:=match Hb a l with
 |some v=>jb (Nat.ble v 9223372036854775807) (c (.t [.v (.n .i64 v),.v (.b true)]) d)
 |none=>c (.t [.v (.n .i64 0),.v (.b false)]) d
def lkW (m:Nat) (t:TypeId) (x y:Operand):Wh:=match mpT t with
 |true=>⟨λ_ e d c=>(iz m x).f e λx=>(iz m y).f e λy=>onM x λid=>tX y λk a=>sI k .i64 (asK (Hb id d.mp) λl=>lkK d c a l)⟩
 |false=>gL
def aak (l:List (Nat×Nat)) (r:Rs):Rs:=List.rec (motive:=λ_=>Rs) r (λ_ _ _=> .no) l
def leW (m:Nat) (t:TypeId) (x y:Operand):Wh:=match mpS t with
 |true=>⟨λ_ e a c=>(iz m x).f e λx=>(iz m y).f e λy=>onM x λid=>I7 y λ_=>asK (Hb id a.mp) λl=>aak l (c (.v (.n .i64 0)) a)⟩
 |false=>gL
def muK (d:Mem) (c:Kt) (id a b:Nat) (l:List (Nat×Nat)):Rs:=match Hb a l with
 |some _=> .no
 |none=>fP (l++[(a,b)]) λl=>c (.v .u) ⟨d.n,d.h,(id,l)::d.mp⟩
def muW (m:Nat) (t:TypeId) (x y z:Operand):Wh:=match mpT t with
 |true=>⟨λ_ e d c=>(iz m x).f e λx=>(iz m y).f e λy=>(iz m z).f e λz=>onM x λid=>tX y λk a=>sI k .i64 (tX z λk b=>sI k .i64 (asK (Hb id d.mp) λl=>muK d c id a b l))⟩
 |false=>gL
def mvW (m:Nat) (x:Operand):Wh:=⟨λ_ e a c=>(iz m x).f e λv=>c v a⟩
def Jz (m:Nat) (op:Op):Wh:=match op with
 | .move x=>mvW m x
 | .assign x=>mvW m x
 | .pick x a b=>pkW m x a b
 | .nilCheck x=>⟨λ_ e u c=>(iz m x).f e λv=>Mp v λid o=>c (.v (.p id o)) u⟩
 | .fieldAddr s x f=>match Nat.blt f 100 with
  |true=>fdW m x (fo s f)
  |false=>gL
 | .indexAddr t x i=>ixW m t x i
 | .binOp op t x y _=>biW m t op x y
 | .unOp op _ x=>unW m op x
 | .extract x k=>exW m x k
 | .field t x k=>flW m x (ux t k)
 | .index t x i=>elW m t x i
 | .build t ps=>buW m t ps.toList
 | .makeFunc fn a b=>mfW m fn a.toList b.toList
 | .slice t x lo hi g=>slW m t x lo hi g
 | .load t x=>ldW m t x
 | .store t x y=>stW m t x y
 | .alloc t=>Y9 t (zA t)
 | .box t x=>bxW m t x
 | .buildSlice t n ps=>rwW m n ps.toList (elemOf t)
 | .makeSlice t n q=>mkW m n q (elemOf t)
 | .convert s d x=>Xe m s d x
 | .makeMap t none=>mkM t
 | .lookup t x y true=>lkW m t x y
 | .lookup t x y false=>leW m t x y
 | .mapUpdate t x y z=>muW m t x y z
 | .call cl=>caW m cl.callee cl.args.toList cl.argTypes.toList
 |_=>gL
structure Wd where
 f:En->AV->(En->Rs)->Rs
def FJ (m:Nat) (d:Option Nat):Wd:=match d with
 |none=>⟨λe _ c=>c e⟩
 |some d=>match kept m d with
  |true=>⟨λe v c=>Kd d v e.vs λvs=>c ⟨vs,e.ts,e.hs,e.ms⟩⟩
  |false=>⟨λe v c=>c ⟨e.vs,(d,v)::e.ts,e.hs,e.ms⟩⟩
def bqK (x:AV) (want:Bool) (a b:Rs):Rs:=AV.rec (motive:=λ_=>Rs) (λx=>SV.rec (motive:=λ_=>Rs) (λ_ _=> .no) (λ_ _=> .no) (λq=>yQ (eB q want) a b) (λ_=> .no) .no (λ_ _=> .no) .no (λ_ _ _ _=> .no) (λ_ _ _ _ _=> .no) (λ_ _ _ _=> .no) b (λ_=> .no) (λ_ _=> .no) (λ_=> .no) .no (λ_ _=> .no) (λ_=> .no) x) (λ_=> .no) (λ_=> .no) (λ_ _=> .no) x
def QY (full:List Oper) (j:Nat):Option Nat:=List.rec (motive:=λ_=>Nat->Option Nat) (λ_=>none) (λo _ a j=>Nat.rec (motive:=λ_=>Option Nat) o.dst (λj _=>a j) j) full j
def V5 (d:Option Nat) (op:Op):Bool:=match d,op with
 |none,.store .. =>true
 |some _,.store .. =>false
 |none,.mapUpdate .. =>true
 |some _,.mapUpdate .. =>false
 |some _,_=>true
 |none,.call cl=>match cl.callee with
  | .value _=>true
  | .builtin .append=>true
  | .builtin .copy=>true
  | .builtin .clear=>true
  |_=>false
 |none,_=>false
def acH (l:List SV):Bool:=List.rec (motive:=λ_=>Bool) false (λx _ a=>match x with
 | .x _ _=>true
 |_=>a) l
def bz1 (x:SV) (f:Nat->Rs):Rs:=match x with
 | .n .u8 a=>f a
 | .x .u8 id=>fN (Nat.add 256 id) f
 |_=> .no
def bzK (l:List SV) (k:List Nat->Rs):Rs:=List.rec (motive:=λ_=>(List Nat->Rs)->Rs) (λk=>k []) (λx _ a k=>bz1 x λq=>a λr=>k (q::r)) l k
def cuK (a:Mem) (c:Kt) (old:Rs) (l:List SV):Rs:=match acH l with
 |true=>bzK l λr=>jb (Nat.ble r.length maxLen) (c (.v (.sl r)) a)
 |false=>old
def cuN (a:Mem) (c:Kt) (k:IntKind) (old:Rs) (v:AV):Rs:=match XR v with
 |some _=>Ea a c k
 |none=>old
def cuB (s d:TypeId):Bool:=match fC d,fC s,elemOf s with
 |true,false,some (el,1)=>match kindOf el with
  |some .u8=>true
  |_=>false
 |_,_,_=>false
def cuW (m:Nat) (s d:TypeId) (x:Operand) (W:Wh):Wh:=match kindOf d,kindOf s with
 |some k,some _=>⟨λg e a c=>(iz m x).f e λv=>cuN a c k (W.f g e a c) v⟩
 |none,_=>match cuB s d with
  |true=>⟨λg e a c=>(iz m x).f e λv=>Ye a 1 v λ_ l=>cuK a c (W.f g e a c) l⟩
  |false=>W
 |_,_=>W
def Ym (m:Nat) (op:Op):Wh:=match op with
 | .convert s d x=>cuW m s d x (Xe m s d x)
 |op=>Jz m op
def Zu:Wo:=⟨λ_ _ _ _=> .no⟩
def Sm (m:Nat) (full:List Oper) (o:Oper) (w:Wo):Wo:=match o.guard with
 |none=>w
 |some (j,want)=>match QY full j with
  |some d=>⟨λg e a c=>(Qq m d).f e λq=>bqK q want (w.f g e a c) ((FJ m o.dst).f e (.v .u) λe=>c e a)⟩
  |none=>Zu
def orW (m:Nat) (full:List Oper) (o:Oper):Wo:=match V5 o.dst o.op with
 |false=>Zu
 |true=>Sm m full o ⟨λd e a c=>(Ym m o.op).f d e a λv a=>(FJ m o.dst).f e v λe=>c e a⟩
abbrev Nt:=Nat×Nat×List SV
structure Wl where
 f:En->Mem->(AV->Nt->Rs)->Rs
def ldH (m:Nat) (t:TypeId) (x:Operand):Wl:=match one t with
 |true=>⟨λe a c=>(iz m x).f e λp=>Mp p λid o=>MS a id λs=>xr s.d o s.m λy=>c (.v y) (id,o,[y])⟩
 |false=>match get ks t with
  |some n=>cN n λn=>⟨λe a c=>(iz m x).f e λp=>Mp p λid o=>J6 a id o n λl=>c (.g l) (id,o,l)⟩
  |none=>⟨λ_ _ _=> .no⟩
def noL:Wl:=⟨λ_ _ _=> .no⟩
def cvN (a:Mem) (c:AV->Nt->Rs) (id z j n:Nat):Rs:=Ur z 1 (J6 a id j n λl=>byK l λr=>jb (Nat.ble r.length maxLen) (c (.v (.s r)) (id,j,l)))
def rdH (m:Nat) (op:Op):Wl:=match op with
 | .convert s _ x=>match fC s,elemOf s with
  |false,some (el,1)=>match kindOf el with
   |some .u8=>⟨λe a c=>(iz m x).f e λv=>LI v .no (λid z j n=>cvN a c id z j n) (λid z j n _=>cvN a c id z j n) .no (λ_=> .no) λ_ _=> .no⟩
   |_=>noL
  |_,_=>noL
 |_=>noL
def p9 (m:Nat) (hs:List Nat) (full:List Oper) (o:Oper):Wo:=match V5 o.dst o.op with
 |false=>Zu
 | true=>match o.op with
  | .load t x=>match nK hs o.dst with
   |true=>Sm m full o ⟨λ_ e a c=>(ldH m t x).f e a λv n=>(FJ m o.dst).f e v λe=>c ⟨e.vs,e.ts,n::e.hs,e.ms⟩ a⟩
   |false=>Sm m full o ⟨λd e a c=>(Jz m (.load t x)).f d e a λv g=>(FJ m o.dst).f e v λe=>c e g⟩
  | op=>match cls fD fC op with
   | .w=>Sm m full o ⟨λd e a c=>(Jz m op).f d e a λv a=>(FJ m o.dst).f e v λe=>c ⟨e.vs,e.ts,e.hs,a::e.ms⟩ a⟩
   | .p=>Sm m full o ⟨λd e a c=>(Ym m op).f d e a λv g=>(FJ m o.dst).f e v λe=>c e g⟩
   | .r=>match nK hs o.dst with
    |true=>Sm m full o ⟨λ_ e a c=>(rdH m op).f e a λv n=>(FJ m o.dst).f e v λe=>c ⟨e.vs,e.ts,n::e.hs,e.ms⟩ a⟩
    |false=>Sm m full o ⟨λd e a c=>(Jz m op).f d e a λv g=>(FJ m o.dst).f e v λe=>c e g⟩
   | .h=>Zu
def lg (m:Nat) (hs:List Nat) (full l:List Oper):Wo:=List.rec (motive:=λ_=>Wo) ⟨λ_ e a c=>c e a⟩ (λo _ r=>⟨λd e a c=>(p9 m hs full o).f d e a λe a=>r.f d e a c⟩) l
def sE (x y:SV):Bool:=match x,y with
 | .n k a,.n t b=>an (Nat.beq (kn k) (kn t)) (Nat.beq a b)
 | .m k a,.m t b=>an (Nat.beq (kn k) (kn t)) (Nat.beq a b)
 | .b a,.b b=>eB a b
 | .s a,.s b=>eU a b
 | .p0,.p0=>true
 | .p i a,.p j b=>an (Nat.beq i j) (Nat.beq a b)
 | .fl a,.fl b=>Nat.beq a b
 | .mp i,.mp j=>Nat.beq i j
 | .cx a b,.cx f b'=>an (Nat.beq a f) (Nat.beq b b')
 | .le i a b c,.le j f b' g=>an (Nat.beq i j) (an (Nat.beq a f) (an (Nat.beq b b') (Nat.beq c g)))
 | .l0,.l0=>true
 | .i0,.i0=>true
 | .x k i,.x t j=>an (Nat.beq (kn k) (kn t)) (Nat.beq i j)
 | .sl a,.sl b=>eU a b
 | .l i a b c,.l j f b' g=>an (Nat.beq i j) (an (Nat.beq a f) (an (Nat.beq b b') (Nat.beq c g)))
 | .lx i a b c d,.lx j f b' g u=>an (Nat.beq i j) (an (Nat.beq a f) (an (Nat.beq b b') (an (Nat.beq c g) (Nat.beq d u))))
 |_,_=>false
def lE (a:List SV):List SV->Bool:=List.rec (motive:=λ_=>List SV->Bool) (λb=>match b with
 |[]=>true
 |_::_=>false) (λx _ d b=>match b with
 |[]=>false
 |y::r=>an (sE x y) (d r)) a
def ckM (ms:List Mem) (n:Nt) (r:Rs):Rs:=List.rec (motive:=λ_=>Rs) r (λd _ a=>J6 d n.1 n.2.1 n.2.2.length λl=>jb (lE n.2.2 l) a) ms
def IK (a:Mem) (ms:List Mem) (hs:List Nt) (r:Rs):Rs:=List.rec (motive:=λ_=>Rs) r (λn _ d=>jb (Nat.ble (Nat.add n.1 1) a.n) (ckM (a::ms) n d)) hs
def tx (m:Nat) (full l:List Oper):Wo:=List.rec (motive:=λ_=>Wo) ⟨λ_ e a c=>c e a⟩ (λo _ r=>⟨λd e a c=>(orW m full o).f d e a λe a=>r.f d e a c⟩) l
def YP (g:En->Mem->Rs) (r:Rs):Rs:=Rs.rec (motive:=λ_=>Rs) .no (λx e a=>Ex.rec (motive:=λ_=>Rs) (g e a) (λn=> .mk (.ext n) e a) (λn=> .mk (.OF n) e a) (.mk .ret e a) (λ_=> .no) x) r
def blK (id:Nat) (r:Rs):Rs:=Rs.rec (motive:=λ_=>Rs) .no (λx e a=>Ex.rec (motive:=λ_=>Rs) (.mk .pn e a) (λj=>yQ (Nat.beq j id) (.mk .pn e a) (.mk (.ext j) e a)) (λn=> .mk (.OF n) e a) (.mk .ret e a) (λ_=> .no) x) r
def lpK (f:En->Mem->Rs) (n:Nat):En->Mem->Rs:=Nat.rec (motive:=λ_=>En->Mem->Rs) (λ_ _=> .no) (λ_ a e d=>YP a (f e d)) n
def Jc (g:Nat->En->Mem->Rs) (n:Nat):Rs->Rs:=Nat.rec (motive:=λ_=>Rs->Rs) (λ_=> .no) (λ_ d r=>Rs.rec (motive:=λ_=>Rs) .no (λx e a=>Ex.rec (motive:=λ_=>Rs) (.mk .pn e a) (λn=> .mk (.ext n) e a) (λl=>d (g l e a)) (.mk .ret e a) (λ_=> .no) x) r) n
def Oh (go:Code->Wc) (b:Code) (l:Nat):Wc:=match findLabel b l with
 |some rest=>go rest
 |none=>⟨λ_ _ _ _=> .no⟩
def noC:Wc:=⟨λ_ _ _ _=> .no⟩
def Qj (ops:Array Oper) (A:Array Nat) (i j:Nat):Bool:=match ops[j]? with
 |none=>false
 | some o=>match cls fD fC o.op with
  | .w=>match Nat.ble (Nat.add j 1) i with
   |true=>!(A.getD i 0).testBit j
   |false=>!(A.getD j 0).testBit i
  |_=>false
def ldU (ops:Array Oper) (A:Array Nat) (k:Nat):List Nat:=(List.range k).filterMap λi=>match ops[i]? with
 |none=>none
 | some o=>match o.op,o.dst with
  | .load ..,some d=>match(List.range ops.size).any (Qj ops A i)with
   |true=>some d
   |false=>none
  | .convert s t _,some d=>match !fC s&&fC t&&(List.range ops.size).any (Qj ops A i)with
   |true=>some d
   |false=>none
  |_,_=>none
def NX (ops:Array Oper) (k:Nat):List Nat:=ldU ops (Region.before ops) k
def Bw (op:Op):Bool:=match op with
 | .alloc _=>true
 | .buildSlice _ n _=>Nat.ble 1 n
 |_=>false
def sY (hs:List Nat) (full:Array Oper) (A:Array Nat) (f:Nat) (post:List Nat):List Nat->List (Nat×Bool)->Bool
 |l,[]=>rA fD fC hs full A l (f::post) []
 |l,(i,true)::pre=>(l.filter (lq full l)==[i,f]||l.filter (lq full l)==[f,i])&&(rA fD fC hs full A (l.erase f) (i::pre.map Prod.fst++post) []&&sY hs full A f post (l.erase i) pre)
 |l,(i,false)::pre=>(u6 fD fC hs full A l i||l.filter (lq full l)==[i])&&sY hs full A f post (l.erase i) pre
def sW (l:List Oper) (is:List Nat):Option (List Oper):=List.rec (motive:=λ_=>Option (List Oper)) (some []) (λi _ a=>match l[i]?,a with
 |some o,some r=>some (o::r)
 |_,_=>none) is
def Fs (hs:List Nat) (full:Array Oper) (A:Array Nat) (f:Nat):Nat->List Nat->Option (List (Nat×Bool)×List Nat)
 |0,_=>none
 | n+1,l=>match l.find? λi=>!(i==f)&&u6 fD fC hs full A l i with
  |some i=>match Fs hs full A f n (l.erase i)with
   |some (pre,post)=>some ((i,false)::pre,post)
   |none=>none
  | none=>match l.filter (lq full l)with
   |[a]=>if a==f then some ([],l.erase f)else match Fs hs full A f n (l.erase a)with
    |some (pre,post)=>some ((a,false)::pre,post)
    |none=>none
   |[a,b]=>match Fs hs full A f n (l.erase (if a==f then b else a))with
    |some (pre,post)=>some ((if a==f then b else a,true)::pre,post)
    |none=>none
   |_=>none
structure PF where
 hs:List Nat
 pre:List (Oper×Bool)
 d:Nat
 d2:Nat
 f:Oper
 post:List Oper
def mF (op:Op) (t:Nat):Bool:=op.operands.toList.any λx=>match x with
 | .tmp u=>Nat.beq u t
 |_=>false
def ur (d:Nat) (op:Op) (o:Oper):Bool:=match o.dst with
 |some t=>!(Nat.beq t d||mF op t)
 |none=>true
def uA (d:Nat) (op:Op):List (Oper×Bool)->Bool
 |[]=>true
 |(o,true)::r=>ur d op o&&r.all (λx=>ur d op x.1)&&uA d op r
 |(_,false)::r=>uA d op r
def XH (hs:List Nat) (ops:Array Oper) (A:Array Nat) (f:Nat):Option PF:=match ops[f]? with
 | some ⟨some d,op,ty,pos,af,none⟩=>match Bw op&&!mF op d,Fs hs ops A f (ops.size+1) (List.range ops.size)with
  | true,some (pre,post)=>match sY hs ops A f post (List.range ops.size) pre,sW ops.toList (pre.map Prod.fst),sW ops.toList post with
   |true,some kG,some a=>match uA d op (kG.zip (pre.map Prod.snd))with
    |true=>some ⟨hs,kG.zip (pre.map Prod.snd),d,d,⟨some d,op,ty,pos,af,none⟩,a⟩
    |false=>none
   |_,_,_=>none
  |_,_=>none
 |_=>none
def xb (hs:List Nat) (full:Array Oper) (A:Array Nat) (f g:Nat) (post:List Nat):List Nat->List (Nat×Bool)->Bool
 |l,[]=>rA fD fC hs full A l (f::g::post) []
 |l,(i,true)::pre=>(l.filter (lq full l)==[i,f]||l.filter (lq full l)==[f,i])&&(sY hs full A g post (l.erase f) ((i,true)::pre)&&xb hs full A f g post (l.erase i) pre)
 |l,(i,false)::pre=>(u6 fD fC hs full A l i||l.filter (lq full l)==[i])&&xb hs full A f g post (l.erase i) pre
def Qz (d:Nat) (t:TypeId) (op:Op):Bool:=match op with
 | .convert s u (.tmp x)=>Nat.beq x d&&(Nat.beq s t&&(fC u&&(!fC s&&match elemOf s with
  |some (el,1)=>match kindOf el with
   |some .u8=>true
   |_=>false
  |_=>false)))
 |_=>false
def Y6 (ops:Array Oper) (d:Nat) (t:TypeId):Option Nat:=(List.range ops.size).find? λi=>match ops[i]? with
 |some o=>Qz d t o.op
 |none=>false
def Pg (d2:Nat):List (Oper×Bool)->Bool
 |[]=>true
 |x::r=>(match x.1.dst with
  |some t=>!Nat.beq t d2
  |none=>true)&&Pg d2 r
def bsT (op:Op):Option TypeId:=match op with
 | .buildSlice t n _=>match Nat.ble 1 n with
  |true=>some t
  |false=>none
 |_=>none
def XY (hs0:List Nat) (ops:Array Oper) (A:Array Nat) (f:Nat):Option PF:=match ops[f]? with
 | some ⟨some d,op,ty,pos,af,none⟩=>match bsT op,mF op d with
  | some t,false=>match Y6 ops d t with
   | some g=>match ops[g]? with
    | some ⟨some d2,a,v,u,m,none⟩=>match Qz d t a&&!Nat.beq d d2&&!mF op d2,Fs (hs0.filter λt=>!Nat.beq t d2) ops A f (ops.size+1) (List.range ops.size)with
     | true,some (pre,n::post)=>match Nat.beq n g&&!nK (hs0.filter λt=>!Nat.beq t d2) (some d2)&&xb (hs0.filter λt=>!Nat.beq t d2) ops A f g post (List.range ops.size) pre,sW ops.toList (pre.map Prod.fst),sW ops.toList post with
      |true,some kG,some s=>match uA d op (kG.zip (pre.map Prod.snd))&&Pg d2 (kG.zip (pre.map Prod.snd))with
       |true=>some ⟨hs0.filter λt=>!Nat.beq t d2,kG.zip (pre.map Prod.snd),d,d2,⟨some d,op,ty,pos,af,none⟩,⟨some d2,a,v,u,m,none⟩::s⟩
       |false=>none
      |_,_,_=>none
     |_,_=>none
    |_=>none
   |none=>none
  |_,_=>none
 |_=>none
inductive Rk where
 |bad|text
 |held (cut:Nat)
 |free (x:PF)
 |GY (x:PF)
def stP (l:List Oper) (k:Nat):List Nat:=List.rec (motive:=λ_=>Nat->List Nat) (λk=>[k]) (λo _ a k=>match o.op with
 | .store .. =>k::a (Nat.add k 1)
 |_=>a (Nat.add k 1)) l k
def Ef (ops:Array Oper) (l:List Nat):Rk:=List.rec (motive:=λ_=>Rk) .bad (λk _ a=>cN k λk=>match pe fD fC (NX ops k) k ops (Region.before ops)with
 |true=> .held k
 |false=>a) l
def qt (N:Nat) (drawn:Bool) (ops:Array Oper):Rk:=match qB N ops with
 |false=> .bad
 | true=>match drawn with
  |false=> .text
  | true=>match Au fD fC [] ops (Region.before ops)with
   |true=> .text
   | false=>match Ef ops (stP ops.toList 0)with
    | .bad=>match Gw ops (Region.before ops)with
     | true=>match(List.range ops.size).findSome? (XY (NX ops ops.size) ops (Region.before ops))with
      |some x=> .GY x
      |none=>match(List.range ops.size).findSome? (XH (NX ops ops.size) ops (Region.before ops))with
       |some x=> .free x
       |none=> .bad
     |false=> .bad
    |x=>x
def mw (d:Nat) (l:mB):mB:=List.rec (motive:=λ_=>mB) [] (λx _ a=>Bool.rec (motive:=λ_=>mB) (x::a) a (Nat.beq x.1 d)) l
def kg (d:Nat) (e:En):En:=⟨mw d e.vs,mw d e.ts,e.hs,e.ms⟩
def nN (m:Nat) (hs:List Nat) (full:List Oper) (d d2:Nat) (l:List (Oper×Bool)):Wo:=List.rec (motive:=λ_=>Wo) ⟨λ_ e a c=>c e a⟩ (λo _ r=>⟨λg e a c=>(p9 m hs full o.1).f g (kg d (kg d2 e)) a λe a=>r.f g e a c⟩) l
def mv (N m:Nat) (d:Nat):Code->Wc:=Nat.rec (motive:=λ_=>Code->Wc) (λ_=>noC) (λ_ go c=>match c with
 | .skip=>⟨λ_ _ e g=> .mk .pn e g⟩
 | .label _=>⟨λ_ _ e g=> .mk .pn e g⟩
 | .region _ ops drawn=>match qt N drawn ops with
  | .text=>⟨λs _ e g=>(tx m ops.toList ops.toList).f s ⟨e.vs,[],[],[]⟩ g λe g=> .mk .pn e g⟩
  | .held k=>⟨λs _ e g=>(lg m (NX ops k) ops.toList (ops.toList.take k)).f s ⟨e.vs,[],[],[]⟩ g λe' t=>IK g e'.ms e'.hs ((tx m ops.toList (ops.toList.drop k)).f s e' t λe g=> .mk .pn e g)⟩
  | .free x=>⟨λs _ e g=>(nN m x.hs ops.toList x.d x.d2 x.pre).f s ⟨e.vs,[],[],[]⟩ g λe' t=>(p9 m x.hs ops.toList x.f).f s e' t λe' t=>(lg m x.hs ops.toList x.post).f s e' t λe' t=>IK g e'.ms e'.hs (.mk .pn e' t)⟩
  | .GY x=>⟨λs _ e g=>(nN m x.hs ops.toList x.d x.d2 x.pre).f s ⟨e.vs,[],[],[]⟩ g λe' t=>(p9 m x.hs ops.toList x.f).f s e' t λe' t=>(lg m x.hs ops.toList x.post).f s e' t λe' t=>IK g e'.ms e'.hs (.mk .pn e' t)⟩
  | .bad=>noC
 | .seq a b=>⟨λs n e g=>YP ((go b).f s n) ((go a).f s n e g)⟩
 | .cond x a b=>⟨λs n e g=>(iz m x).f e λq=>U9 q ((go a).f s n e g) ((go b).f s n e g)⟩
 | .block id b=>⟨λs n e g=>blK id ((go b).f s n e g)⟩
 | .loop b=>⟨λs n e g=>lpK ((go b).f s n) n e g⟩
 | .scope b=>⟨λs n e g=>Jc (λl=>(Oh go b l).f s n) n ((go b).f s n e g)⟩
 | .exit id=>⟨λ_ _ e g=> .mk (.ext id) e g⟩
 | .goto l=>⟨λ_ _ e g=> .mk (.OF l) e g⟩
 | .ret=>⟨λ_ _ e g=> .mk .ret e g⟩
 |_=>noC) d
def paK (m:Nat) (l:List AV) (c:mB->Rs):Rs:=List.rec (motive:=λ_=>Nat->(mB->Rs)->Rs) (λ_ c=>c []) (λx _ a k c=>fN (Nat.add k 1) λd=>a d λr=>yQ (kept m k) (c ((k,x)::r)) (c r)) l 0 c
structure Wr where
 f:En->Mem->(AV->Rs)->Rs
structure Wrs where
 f:En->Mem->(List AV->Rs)->Rs
def reW (m:Nat) (r:ResultVar):Wr:=match r with
 | .tmp t=>⟨λe _ k=>(Qq m t).f e k⟩
 | .cell a t=>match one t with
  |true=>⟨λe s k=>(Qq m a).f e λp=>Mp p λid o=>MS s id λu=>xr u.d o u.m λx=>k (.v x)⟩
  |false=>match get ks t with
   |some n=>cN n λn=>⟨λe s k=>(Qq m a).f e λp=>Mp p λid o=>J6 s id o n λl=>k (.g l)⟩
   |none=>⟨λ_ _ _=> .no⟩
def TU (m:Nat) (l:List ResultVar):Wrs:=List.rec (motive:=λ_=>Wrs) ⟨λ_ _ k=>k []⟩ (λx _ r=>⟨λe a k=>(reW m x).f e a λv=>r.f e a λl=>k (v::l)⟩) l
def tuK (l:List AV) (k:List TV->Rs):Rs:=List.rec (motive:=λ_=>(List TV->Rs)->Rs) (λk=>k []) (λx _ a k=>TM x (λx=>a λl=>k (.v x::l)) λg=>a λl=>k (.g g::l)) l k
def toK (e:En) (a:Mem) (l:List AV):Rs:=List.rec (motive:=λ_=>Rs) (.mk (.val (.t [])) e a) (λx r _=>List.rec (motive:=λ_=>Rs) (.mk (.val x) e a) (λ_ _ _=>tuK (x::r) λl=> .mk (.val (.t l)) e a) r) l
def reK (w:Wrs) (r:Rs):Rs:=Rs.rec (motive:=λ_=>Rs) .no (λx e a=>Ex.rec (motive:=λ_=>Rs) (w.f e a λl=>toK e a l) (λ_=> .no) (λ_=> .no) (w.f e a λl=>toK e a l) (λ_=> .no) x) r
structure Wf where
 f:Cl->List AV->Mem->Rs
def lF:Nat:=1000000
inductive Fe where
 |code (fn:Func) (m:Nat)
 |pU (o:List AV->Mem->Rs)
def fnW (x:Option Fe):Wf:=match x with
 |some (.code fn m)=>match fn.body with
  |some c=>⟨λd vs a=>jb (Nat.ble vs.length fn.ntmps)<|paK m vs λl=>reK (TU m fn.results.toList) ((mv fn.ntmps m 1000 c).f d lF ⟨l,[],[],[]⟩ a)⟩
  |none=>⟨λ_ _ _=> .no⟩
 |some (.pU o)=>⟨λ_ vs a=>o vs a⟩
 |none=>⟨λ_ _ _=> .no⟩
def Tu (l:List (Nat×Fe)) (f:Nat):Option Fe:=List.rec (motive:=λ_=>Option Fe) none (λx _ a=>match Nat.beq x.1 f with
 |true=>some x.2
 |false=>a) l
def run (d:List (Nat×Fe)) (n:Nat):Cl:=Nat.rec (motive:=λ_=>Cl) (λ_ _ _=> .no) (λ_ a f vs g=>(fnW (Tu d f)).f a vs g) n
def ok (r:Rs):Bool:=Rs.rec (motive:=λ_=>Bool) false (λx _ _=>Ex.rec (motive:=λ_=>Bool) false (λ_=>false) (λ_=>false) false (λv=>match v with
 | .v (.b b)=>b
 |_=>false) x) r
end
section
theorem gP (n:Nat) (k:Nat->Rs):fN n k=k n:=by
 cases n<;>rfl
theorem nF {α:Type} (l:List α) (k:List α->Rs):fP l k=k l:=by
 induction l generalizing k with
 |nil=>rfl
 |cons x r a=>exact a λr=>k (x::r)
theorem iJ {a:Type} (n:Nat) (k:Nat->a):cN n k=k n:=by
 cases n<;>rfl
theorem YH {a:Type} (l:List Nat) (k:List Nat->a):cU l k=k l:=by
 induction l generalizing k<;>simp_all [cN,cU,iJ]
theorem Vr {d:Type} (x:SV) (k:SV->d):cV x k=k x:=by
 cases x with
 |n i a=>exact iJ a λa=>k (.n i a)
 |m i a=>exact iJ a λa=>k (.m i a)
 |s l=>exact YH l λl=>k (.s l)
 |_=>rfl
theorem rr {a:Type} (l:List SV) (k:List SV->a):Ss l k=k l:=by
 induction l generalizing k with
 |nil=>rfl
 |cons x r d=>
  show cV x (λx=>Ss r λr=>k (x::r))=_
  grind [Vr]
theorem fO {b:Bool} {x r:Rs} (h:jb b x=r) (a:r≠ .no):b=true/\x=r:=by
 cases b with
 |true=>exact⟨rfl,h⟩
 |false=>exact absurd h.symm a
theorem me (b:Bool) (x y:Rs):yQ b x y=if b=true then x else y:=by
 cases b<;>rfl
def hV {α:Type}:Nat->Nat->Tr α->Option α
 |0,0,.leaf v=>some v
 |0,_,_=>none
 |_+1,_,.nil=>none
 |_+1,_,.leaf _=>none
 |d+1,k,.node l r=>if Nat.land k 1=0 then hV d (Nat.shiftRight k 1) l else hV d (Nat.shiftRight k 1) r
theorem mj {α:Type} {c:α->Rs} {res:Rs} (a:res≠ .no):∀{d k:Nat} {t:Tr α},xr d k t c=res->∃x,hV d k t=some x/\c x=res
 |0,0,.nil,h=>absurd h.symm a
 |0,0,.leaf v,h=>⟨v,rfl,h⟩
 |0,0,.node _ _,h=>absurd h.symm a
 |0,_+1,_,h=>absurd h.symm a
 |_+1,_,.nil,h=>absurd h.symm a
 |_+1,_,.leaf _,h=>absurd h.symm a
 | d+1,k,.node l r,h=>by
  have f:Nat.rec (motive:=λ_=>Rs) (xr d (Nat.shiftRight k 1) l c) (λ_ _=>xr d (Nat.shiftRight k 1) r c) (Nat.land k 1)=res:=h;unfold hV;cases hk:Nat.land k 1 with
  |zero=>
   rw[hk]at f;rw[if_pos rfl];exact mj a (d:=d) f
  |succ n=>
   rw[hk]at f;rw[if_neg fy];exact mj a (d:=d) f
theorem vZ {k a:Nat} (f:a≠k) (e:Nat.land a 1=Nat.land k 1):Nat.shiftRight a 1≠Nat.shiftRight k 1:=by
 intro h;have d:a% 2=k% 2:=by have:=e;simpa[zw]using this
 have h1:a/2=k/2:=by have:=h;simpa[LB]using this
 omega
def Put {α:Type} (d k:Nat) (x:α) (t t':Tr α):Prop:=hV d k t'=some x/\∀a,a≠k->hV d a t'=hV d a t
theorem rh {α:Type} {x:α} {res:Rs} (a:res≠ .no):∀{d k:Nat} {t:Tr α} {c:Tr α->Rs},yM d k x t c=res->∃t',Put d k x t t'/\(hV d k t).isSome=true/\c t'=res
 |0,0,.nil,_,h=>absurd h.symm a
 |0,0,.leaf v,_,h=>⟨.leaf x,⟨rfl,λf hk=>by
  cases f with
  |zero=>exact absurd rfl hk
  |succ n=>rfl⟩,rfl,h⟩
 |0,0,.node _ _,_,h=>absurd h.symm a
 |0,_+1,_,_,h=>absurd h.symm a
 |_+1,_,.nil,_,h=>absurd h.symm a
 |_+1,_,.leaf _,_,h=>absurd h.symm a
 | d +1,k,.node l r,c,h=>by
  have g:Nat.rec (motive:=λ_=>Rs) (yM d (Nat.shiftRight k 1) x l λl=>c (.node l r)) (λ_ _=>yM d (Nat.shiftRight k 1) x r λr=>c (.node l r)) (Nat.land k 1)=res:=h
  have w:Nat.land k 1=0∨Nat.land k 1=1:=by
   have:Nat.land k 1=k% 2:=zw k;omega
  rcases w with hk|hk
  ·rw[hk]at g;obtain⟨t',⟨h1,s⟩,u,m⟩:=rh a (d:=d) g;refine⟨.node t' r,⟨by grind [hV],λf y=>?_⟩,by grind [hV],m⟩
   grind [hV,vZ]
  ·rw[hk]at g;obtain⟨t',⟨h1,s⟩,u,m⟩:=rh a (d:=d) g;refine⟨.node l t',⟨by grind [hV],λf y=>?_⟩,by grind [hV],m⟩;simp only[hV];split
   ·rfl
   ·rename_i e
    have e':Nat.land f 1=1:=by
     have:Nat.land f 1=f% 2:=zw f;omega
    grind [vZ]
theorem mS {α:Type} {x:α} {res:Rs} (m:res≠ .no):∀{d k:Nat} {t:Tr α} {c:Tr α->Rs},xB d k x t c=res->∃t',Put d k x t t'/\c t'=res
 |0,0,t,c,h=>⟨.leaf x,⟨rfl,λa hk=>by
  cases a with
  |zero=>exact absurd rfl hk
  |succ n=>cases t<;>rfl⟩,h⟩
 |0,_+1,_,_,h=>absurd h.symm m
 |_+1,_,.leaf _,_,h=>absurd h.symm m
 | d +1,k,.nil,c,h=>by
  have f:Nat.rec (motive:=λ_=>Rs) (xB d (Nat.shiftRight k 1) x .nil λl=>c (.node l .nil)) (λ_ _=>xB d (Nat.shiftRight k 1) x .nil λr=>c (.node .nil r)) (Nat.land k 1)=res:=h
  have u:Nat.land k 1=0∨Nat.land k 1=1:=by
   have:Nat.land k 1=k% 2:=zw k;omega
  have w:∀d a,hV d a (Tr.nil:Tr α)=none:=λd a=>by
   cases d<;>cases a<;>rfl
  rcases u with hk|hk
  ·rw[hk]at f;obtain⟨t',⟨h1,s⟩,g⟩:=mS m (d:=d) f;refine⟨.node t' .nil,⟨by grind [hV],λa v=>?_⟩,g⟩
   grind [hV,vZ]
  ·rw[hk]at f;obtain⟨t',⟨h1,s⟩,g⟩:=mS m (d:=d) f;refine⟨.node .nil t',⟨by grind [hV],λa v=>?_⟩,g⟩;simp only[hV];split
   ·rw[w]
   ·rename_i e
    have e':Nat.land a 1=1:=by
     have:Nat.land a 1=a% 2:=zw a;omega
    grind [vZ]
 | d +1,k,.node l r,c,h=>by
  have f:Nat.rec (motive:=λ_=>Rs) (xB d (Nat.shiftRight k 1) x l λl=>c (.node l r)) (λ_ _=>xB d (Nat.shiftRight k 1) x r λr=>c (.node l r)) (Nat.land k 1)=res:=h
  have u:Nat.land k 1=0∨Nat.land k 1=1:=by
   have:Nat.land k 1=k% 2:=zw k;omega
  rcases u with hk|hk
  ·rw[hk]at f;obtain⟨t',⟨h1,s⟩,g⟩:=mS m (d:=d) f;refine⟨.node t' r,⟨by grind [hV],λa v=>?_⟩,g⟩
   grind [hV,vZ]
  ·rw[hk]at f;obtain⟨t',⟨h1,s⟩,g⟩:=mS m (d:=d) f;refine⟨.node l t',⟨by grind [hV],λa v=>?_⟩,g⟩;simp only[hV];split
   ·rfl
   ·rename_i e
    have e':Nat.land a 1=1:=by
     have:Nat.land a 1=a% 2:=zw a;omega
    grind [vZ]
section
variable {res:Rs} (hr:res≠ .no)
include hr
theorem x6 {d:Nat} {m:Tr SV}:∀{n o:Nat} {c:List SV->Rs},Yr d m o n c=res->∃l,l.length=n/\(∀i,i<n->hV d (o+i) m=l[i]?)/\c l=res
 |0,_,_,h=>⟨[],rfl,fS,h⟩
 |n+1,o,c,h=>by
  have a:xr d o m (λx=>fN (Nat.add o 1) λo=>Yr d m o n λl=>c (x::l))=res:=h;obtain⟨x,s,a⟩:=mj hr a;rw[gP]at a;obtain⟨l,g,f,a⟩:=x6 a
  grind
def AK (d o:Nat) (l:List SV) (m m':Tr SV):Prop:=∀k,hV d k m'=if o<=k/\k<o+l.length then l[k-o]? else hV d k m
omit hr in
theorem AK.cons {d o:Nat} {x:SV} {l:List SV} {m m' a:Tr SV} (h1:Put d o x m m') (f:AK d (o+1) l m' a):AK d o (x::l) m a:=λk=>by
 rw[f k]
 by_cases hk:k=o
 ·subst hk;rw[if_neg fy,if_pos ir,h1.1];simp
 ·rw[h1.2 k hk]
  grind
theorem L4 {d:Nat}:∀{l:List SV} {o:Nat} {m:Tr SV} {c:Tr SV->Rs},wrT d o l m c=res->∃m',AK d o l m m'/\(∀i,i<l.length->(hV d (o+i) m).isSome=true)/\c m'=res
 |[],o,m,c,h=>⟨m,λk=>by grind,fS,h⟩
 | x::l,o,m,c,h=>by
  have a:yM d o x m (λm=>fN (Nat.add o 1) λo=>wrT d o l m c)=res:=h;obtain⟨m',h1,f,a⟩:=rh hr a;rw[gP]at a;obtain⟨s,g,n,a⟩:=L4 a;refine⟨s,AK.cons h1 g,λi hi=>?_,a⟩;cases i with
  |zero=>exact f
  | succ i=>
   have:=n i (by simpa using hi)
   have e:Nat.add o 1+i=o+(i+1):=by
    show o+1+i=o+(i+1)
    omega
   rw[e,h1.2 _ fy]at this;exact this
theorem rV {d:Nat}:∀{l:List SV} {o:Nat} {m:Tr SV} {c:Tr SV->Rs},C1 d o l m c=res->∃m',AK d o l m m'/\c m'=res
 |[],o,m,c,h=>⟨m,λk=>by grind,h⟩
 |x::l,o,m,c,h=>by
  have a:xB d o x m (λm=>fN (Nat.add o 1) λo=>C1 d o l m c)=res:=h;obtain⟨m',h1,a⟩:=mS hr a;rw[gP]at a;obtain⟨g,f,a⟩:=rV a
  grind [AK.cons]
end
def jy (a:Mem) (id:Nat):Option Ob:=hV dI id a.h
def hY (f:Mem) (id o:Nat):Option SV:=match jy f id with
 |some a=>hV a.d o a.m
 |none=>none
theorem kA {α:Type} (d k:Nat):hV d k (Tr.nil:Tr α)=none:=by
 cases d<;>cases k<;>rfl
section
variable {res:Rs} (hr:res≠ .no)
include hr
theorem oU {d:Mem} {id:Nat} {c:Ob->Rs} (h:MS d id c=res):∃a,jy d id=some a/\c a=res:=mj hr h
theorem l6 {a:Mem} {id n:Nat} {c:List SV->Rs} (h:J6 a id o n c=res):∃d l,jy a id=some d/\l.length=n/\(∀i,i<n->hY a id (o+i)=l[i]?)/\c l=res:=by
 obtain⟨d,h1,h⟩:=oU hr h;obtain⟨l,f,g,h⟩:=x6 hr h
 grind [hY]
theorem T2 {f:Mem} {id:Nat} {l:List SV} {c:Mem->Rs} (h:RZ f id o l c=res):∃a m' g,jy f id=some a/\AK a.d o l a.m m'/\(∀i,i<l.length->(hV a.d (o+i) a.m).isSome=true)/\(g.n=f.n/\g.mp=f.mp)/\jy g id=some ⟨a.e,a.d,a.n,m'⟩/\(∀k,k≠id->jy g k=jy f k)/\c g=res:=by
 obtain⟨a,h1,h⟩:=oU hr h;obtain⟨m',t,u,h⟩:=L4 hr h;obtain⟨t',s,_,h⟩:=rh hr h;exact⟨a,m',⟨f.n,t',f.mp⟩,h1,t,u,⟨rfl,rfl⟩,s.1,s.2,h⟩
theorem yK {a:Mem} {g:Ob} {c:Nat->Mem->Rs} (h:SY a g c=res):∃d,(d.n=a.n+1/\d.mp=a.mp)/\jy d a.n=some g/\(∀k,k≠a.n->jy d k=jy a k)/\c a.n d=res:=by
 obtain⟨_,h⟩:=fO h hr;obtain⟨t',f,h⟩:=mS hr h;rw[gP]at h;exact⟨⟨a.n+1,t',a.mp⟩,⟨rfl,rfl⟩,f.1,f.2,h⟩
theorem pA {a:Mem} {l:List SV} {c:Nat->Mem->Rs} (h:qG a e l c=res):∃g f,(f.n=a.n+1/\f.mp=a.mp)/\g.e=e/\g.n=l.length/\(∀o,hV g.d o g.m=l[o]?)/\jy f a.n=some g/\(∀k,k≠a.n->jy f k=jy a k)/\c a.n f=res:=by
 unfold qG at h;rw[gP,gP]at h;obtain⟨m,h1,h⟩:=rV hr h;obtain⟨f,s,t,u,h⟩:=yK hr h;refine⟨_,f,s,rfl,rfl,λo=>?_,t,u,h⟩;show hV _ o m=_
 rw[h1 o,kA]
 grind
theorem BI {a:Mem} {id:Nat} {c:Mem->Rs} (h:OA a id c=res):∃d,(d.n=a.n/\d.mp=a.mp)/\jy d id=some ⟨0,0,0,.nil⟩/\(∀k,k≠id->jy d k=jy a k)/\c d=res:=by
 obtain⟨t',h1,_,h⟩:=rh hr h;exact⟨⟨a.n,t',a.mp⟩,⟨rfl,rfl⟩,h1.1,h1.2,h⟩
end
def lp (t:Nat):mB->Option AV
 |[]=>none
 |x::r=>if x.1=t then some x.2 else lp t r
theorem ke (a b:Nat):(a=b/\Nat.beq a b=true)∨(a≠b/\Nat.beq a b=false):=by
 grind [Nat.beq,absurd,Nat.eq_of_beq_eq_true,Nat.beq_refl]
theorem vT {res:Rs} (g:res≠ .no) {t:Nat} {k:AV->Rs}:∀{l:mB},LL t l k=res->∃a,lp t l=some a/\k a=res
 |[],h=>absurd h.symm g
 | x::r,h=>by
  have d:Bool.rec (motive:=λ_=>Rs) (LL t r k) (k x.2) (Nat.beq x.1 t)=res:=h;rcases ke x.1 t with⟨e,f⟩|⟨e,f⟩
  ·simp_all [lp]
  ·rw[f]at d;obtain⟨a,h1,m⟩:=vT g (l:=r) d
   grind [lp]
theorem GB {t:Nat} {v:AV}:∀{l:mB} {c:mB->Rs},∃l',Kd t v l c=c l'/\∀s,lp s l'=if s=t then some v else lp s l
 |[],c=>⟨[(t,v)],rfl,by grind [lp]⟩
 | x::r,c=>by
  have d:Kd t v (x::r) c=Bool.rec (motive:=λ_=>Rs) (Kd t v r λr=>c (x::r)) (c ((t,v)::r)) (Nat.beq x.1 t):=rfl;rcases ke x.1 t with⟨e,a⟩|⟨e,a⟩
  ·rw[a]at d
   grind [lp]
  ·rw[a]at d;obtain⟨l',h1,f⟩:=GB (t:=t) (v:=v) (l:=r) (c:=λr=>c (x::r))
   grind [lp]
end
section
structure At where
 b:Nat
 c:Nat
 z:Nat
abbrev Pl:=List At
def jD (l:List Nat):fQ:=l.map UInt8.ofNat
def oI (ρ:Pl) (q:Nat):UInt8:=if q<256 then UInt8.ofNat q else match ρ[q-256]? with
 |some p=>UInt8.ofNat p.b
 |none=>0
def SR (ρ:Pl):SV->Value->Prop
 | .n k a,v=>v= .int k (Int.ofNat a)/\a<=jt k
 | .m k a,v=>v= .int k (Int.negSucc a)/\a<=jt k/\k.signed=true
 | .b x,v=>v= .bool x
 | .s l,v=>v= .string (su (jD l))/\(∀c∈l,c<256)/\l.length<=maxLen
 | .p0,v=>v= .pointer none
 | .p id o,v=>∃p,ρ[id]? =some p/\v= .pointer (some ⟨p.b,o,none⟩)
 | .l0,v=>v= .slice none 0 0
 | .l id z j n,v=>∃p,ρ[id]? =some p/\p.z=z/\j+n<=p.c/\p.c<=maxLen/\v= .slice (some ⟨p.b,j*z,none⟩) n (p.c-j)
 | .lx id z j n c,v=>∃p,ρ[id]? =some p/\n<=c/\c<=maxLen/\v= .slice (some ⟨p.b,j*z,none⟩) n c
 | .le id z j a,v=>∃p,ρ[id]? =some p/\p.c<=maxLen/\v= .slice (if p.c-j=a then some ⟨p.b,j*z,none⟩else some ⟨p.b,j*z+a*z,none⟩) 0 (p.c-j-a)
 | .u,v=>v=undef
 | .fl n,v=>v= .float .f64 (fw n)/\n<=1099511627776
 | .mp id,v=>∃p,ρ[id]? =some p/\v= .map (some p.b)
 | .i0,v=>v= .nilIface
 | .x k id,v=>∃p,ρ[id]? =some p/\v= .int k (Int.ofNat p.b)/\p.b<=jt k/\k.signed=false
 | .sl l,v=>v= .string (su (l.map (oI ρ)))/\(∀q∈l,q<256∨∃p,ρ[q-256]? =some p/\p.b<256)/\l.length<=maxLen
 | .cx a b,v=>v= .complex .f64 (fw a) (fw b)/\a<=1099511627776/\b<=1099511627776
theorem SR.Ev {ρ:Pl} {id z j a:Nat} (h:SR ρ (.le id z j a) v):∃A c,v= .slice A 0 c/\c<=maxLen:=by
 obtain⟨p,_,h1,d⟩:=h
 grind
theorem SR.one {ρ:Pl} {x:SV} {u:Value} (h:SR ρ x u) (d:SR ρ x v):u=v:=by
 cases x with
 |n k a=>exact h.1.trans d.1.symm
 |m k a=>exact h.1.trans d.1.symm
 |b q=>exact h.trans d.symm
 |s l=>exact h.1.trans d.1.symm
 |p0=>exact h.trans d.symm
 |p id o=>
  obtain⟨p,h1,rfl⟩:=h;obtain⟨q,f,rfl⟩:=d
  grind
 |l0=>exact h.trans d.symm
 |l id z j n=>
  obtain⟨p,h1,_,_,_,rfl⟩:=h;obtain⟨q,f,_,_,_,rfl⟩:=d
  grind
 |lx id z j n c=>
  obtain⟨p,h1,_,_,rfl⟩:=h;obtain⟨q,f,_,_,rfl⟩:=d
  grind
 |le id z j a=>
  obtain⟨p,h1,_,rfl⟩:=h;obtain⟨q,f,_,rfl⟩:=d
  grind
 |u=>exact h.trans d.symm
 |fl n=>exact h.1.trans d.1.symm
 |cx a b=>exact h.1.trans d.1.symm
 |mp id=>
  obtain⟨p,h1,rfl⟩:=h;obtain⟨q,f,rfl⟩:=d
  grind
 |i0=>exact h.trans d.symm
 |x k id=>
  obtain⟨p,h1,rfl,_⟩:=h;obtain⟨q,f,rfl,_⟩:=d
  grind
 |sl l=>exact h.1.trans d.1.symm
def Up (ρ a:Pl):Prop:=∀(id:Nat) p,ρ[id]? =some p->a[id]? =some p
theorem Up.refl (ρ:Pl):Up ρ ρ:=λ_ _ h=>h
theorem Up.trans {a b c:Pl} (h:Up a b) (k:Up b c):Up a c:=λid p e=>k id p (h id p e)
theorem Up.snoc (ρ:Pl) (p:At):Up ρ (ρ++[p]):=λid q h=>by
 grind
theorem Sj {ρ a:Pl} (hu:Up ρ a) {q:Nat} (h:q<256∨∃p,ρ[q-256]? =some p/\p.b<256):oI a q=oI ρ q:=by
 unfold oI
 by_cases hq:q<256
 ·simp[hq]
 ·obtain⟨p,h1,_⟩:=h.resolve_left hq;simp[hq,h1,hu _ _ h1]
theorem SR.up {ρ f:Pl} (hu:Up ρ f) {x:SV} (h:SR ρ x v):SR f x v:=by
 cases x with
 |p id o=>obtain⟨p,h1,d⟩:=h;exact⟨p,hu _ _ h1,d⟩
 |l id z j n=>obtain⟨p,h1,d⟩:=h;exact⟨p,hu _ _ h1,d⟩
 |lx id z j n c=>obtain⟨p,h1,d⟩:=h;exact⟨p,hu _ _ h1,d⟩
 |le id z j a=>obtain⟨p,h1,d⟩:=h;exact⟨p,hu _ _ h1,d⟩
 |mp id=>obtain⟨p,h1,d⟩:=h;exact⟨p,hu _ _ h1,d⟩
 |x k id=>obtain⟨p,h1,d⟩:=h;exact⟨p,hu _ _ h1,d⟩
 |sl l=>
  obtain⟨h1,d,g⟩:=h;refine⟨?_,λq hq=>(d q hq).imp_right λ⟨p,k1,k2⟩=>⟨p,hu _ _ k1,k2⟩,g⟩
  grind [List.map_congr_left,Sj]
 |_=>exact h
def CR (ρ:Pl) (x:SV) (v:Value):Prop:=nu x=true/\SR ρ x v
theorem CR.up {ρ a:Pl} (hu:Up ρ a) {x:SV} {v:Value} (h:CR ρ x v):CR a x v:=⟨h.1,h.2.up hu⟩
theorem CR.cell {ρ:Pl} {x:SV} (h:CR ρ x v):v.oneCell'=true:=by
 obtain⟨h0,h⟩:=h;cases x with
 |n k a=>rw[h.1];rfl
 |m k a=>rw[h.1];rfl
 |b q=>rw[show v=_ from h];rfl
 |s l=>rw[h.1];rfl
 |p0=>rw[show v=_ from h];rfl
 |p id o=>obtain⟨p,_,rfl⟩:=h;rfl
 |l0=>rw[show v=_ from h];rfl
 |l id z j n=>obtain⟨p,_,_,_,_,rfl⟩:=h;rfl
 |lx id z j n c=>obtain⟨p,_,_,_,rfl⟩:=h;rfl
 |le id z j a=>obtain⟨p,_,_,rfl⟩:=h;rfl
 |u=>cases h0
 |fl n=>rw[h.1];rfl
 |cx a b=>rw[h.1];rfl
 |mp id=>obtain⟨p,_,rfl⟩:=h;rfl
 |i0=>rw[show v=_ from h];rfl
 |x k id=>obtain⟨p,_,rfl,_⟩:=h;rfl
 |sl l=>rw[h.1];rfl
theorem SR.cells {ρ:Pl} {x:SV} {v:Value} (h:SR ρ x v):v.cells= #[v]:=by
 cases x with
 |n k a=>rw[h.1];rfl
 |m k a=>rw[h.1];rfl
 |b q=>rw[show v=_ from h];rfl
 |s l=>rw[h.1];rfl
 |p0=>rw[show v=_ from h];rfl
 |p id o=>obtain⟨p,_,rfl⟩:=h;rfl
 |l0=>rw[show v=_ from h];rfl
 |l id z j n=>obtain⟨p,_,_,_,_,rfl⟩:=h;rfl
 |lx id z j n c=>obtain⟨p,_,_,_,rfl⟩:=h;rfl
 |le id z j a=>obtain⟨p,_,_,rfl⟩:=h;rfl
 |u=>rw[show v=_ from h];rfl
 |fl n=>rw[h.1];rfl
 |cx a b=>rw[h.1];rfl
 |mp id=>obtain⟨p,_,rfl⟩:=h;rfl
 |i0=>rw[show v=_ from h];rfl
 |x k id=>obtain⟨p,_,rfl,_⟩:=h;rfl
 |sl l=>rw[h.1];rfl
inductive jU (ρ:Pl):List SV->List Value->Prop where
 |nil:jU ρ [] []
 |cons {x v l vs}:CR ρ x v->jU ρ l vs->jU ρ (x::l) (v::vs)
theorem jU.cells {ρ:Pl} {l:List SV} (h:jU ρ l vs):∀u∈vs,u.oneCell'=true:=by
 induction h<;>grind [nil,cons,CR.cell]
theorem jU.up {ρ a:Pl} (hu:Up ρ a) {l:List SV} {vs:List Value} (h:jU ρ l vs):jU a l vs:=by
 induction h with
 |nil=>exact .nil
 |cons h1 _ d=>exact .cons (h1.up hu) d
theorem jU.len {ρ:Pl} {l:List SV} (h:jU ρ l vs):vs.length=l.length:=by
 induction h<;>grind
theorem jU.get {ρ:Pl} {l:List SV} (h:jU ρ l vs):∀(i:Nat) x,l[i]? =some x->∃v,vs[i]? =some v/\CR ρ x v:=by
 induction h<;>grind
theorem jU.app {ρ:Pl} {l l':List SV} {a:List Value} (h:jU ρ l vs) (d:jU ρ l' a):jU ρ (l++l') (vs++a):=by
 induction h<;>grind [nil,cons]
theorem jU.take {ρ:Pl} {l:List SV} {vs:List Value} (h:jU ρ l vs) (n:Nat):jU ρ (l.take n) (vs.take n):=by
 induction h generalizing n with
 |nil=>simp;exact .nil
 |cons h1 _ a=>
  cases n with
  |zero=>exact .nil
  |succ n=>exact .cons h1 (a n)
theorem jU.drop {ρ:Pl} {l:List SV} {vs:List Value} (h:jU ρ l vs) (n:Nat):jU ρ (l.drop n) (vs.drop n):=by
 induction h generalizing n with
 |nil=>simp;exact .nil
 |cons h1 a d=>
  cases n with
  |zero=>exact .cons h1 a
  |succ n=>exact d n
theorem jU.of {ρ:Pl}:∀{l:List SV} {vs:List Value},vs.length=l.length->(∀(i:Nat) x,l[i]? =some x->∃v,vs[i]? =some v/\CR ρ x v)->jU ρ l vs
 |[],[],_,_=> .nil
 |[],_::_,h,_=>by cases h
 |_::_,[],h,_=>by cases h
 |x::l,v::vs,a,h=>by
  obtain⟨f,e,h1⟩:=h 0 x rfl;injection e with e;subst e
  exact .cons h1 (jU.of (by simpa using a) λi y d=>h (i+1) y d)
def TR (ρ:Pl):TV->Value->Prop
 | .v x,v=>SR ρ x v
 | .g l,v=>∃vs,jU ρ l vs/\v= .agg vs.toArray
inductive Tj (ρ:Pl):List TV->List Value->Prop where
 |nil:Tj ρ [] []
 |cons {x v l vs}:TR ρ x v->Tj ρ l vs->Tj ρ (x::l) (v::vs)
def AR (ρ:Pl):AV->Value->Prop
 | .v x,v=>SR ρ x v
 | .g l,v=>∃vs,jU ρ l vs/\v= .agg vs.toArray
 | .t l,v=>∃vs,Tj ρ l vs/\v= .tuple vs.toArray
 | .f fn l,v=>∃vs,jU ρ l vs/\v= .func (.func fn) #[] vs.toArray
theorem TR.up {ρ a:Pl} (hu:Up ρ a) {x:TV} {v:Value} (h:TR ρ x v):TR a x v:=by
 cases x with
 |v x=>exact SR.up hu h
 |g l=>obtain⟨vs,h1,d⟩:=h;exact⟨vs,h1.up hu,d⟩
theorem Tj.up {ρ a:Pl} (hu:Up ρ a) {l:List TV} {vs:List Value} (h:Tj ρ l vs):Tj a l vs:=by
 induction h with
 |nil=>exact .nil
 |cons h1 _ d=>exact .cons (h1.up hu) d
theorem AR.up {ρ d:Pl} (hu:Up ρ d) {x:AV} {v:Value} (h:AR ρ x v):AR d x v:=by
 cases x with
 |v x=>exact SR.up hu h
 |g l=>obtain⟨vs,h1,a⟩:=h;exact⟨vs,h1.up hu,a⟩
 |t l=>obtain⟨vs,h1,a⟩:=h;exact⟨vs,h1.up hu,a⟩
 |f fn l=>obtain⟨vs,h1,a⟩:=h;exact⟨vs,h1.up hu,a⟩
inductive A1 (ρ:Pl):List AV->List Value->Prop where
 |nil:A1 ρ [] []
 |cons {x v l vs}:AR ρ x v->A1 ρ l vs->A1 ρ (x::l) (v::vs)
def Bk (w:World) (g:Nat) (t:TypeId) (cs:Array Value):Prop:=∃f:Nat×Nat,w.heap[g]? =some (.cells cs t f)/\(cs.size<=f.1∨f=(0,0))
theorem fU.bk {t:TypeId} (h:fU w g t cs):Bk w g t cs:=⟨(0,0),h,.inr rfl⟩
section
variable {w w':World} {g:Nat} {t:TypeId} {cs:Array Value}
theorem Bk.lt (h:Bk w g t cs):g<w.heap.size:=by
 obtain⟨f,h,_⟩:=h
 grind
theorem Bk.cell (h:Bk w g t cs) (i:Nat):w.cell? ⟨g,i,none⟩=cs[i]? :=by
 obtain⟨f,h,_⟩:=h;simp[World.cell?,h]
theorem Bk.frozen (h:Bk w g t cs) {i:Nat} (hi:i<cs.size):w.frozen? ⟨g,i,none⟩=false:=by
 obtain⟨f,h,a⟩:=h
 grind [World.frozen?]
theorem Bk.one {t':TypeId} {a:Array Value} (h:Bk w g t cs) (d:Bk w g t' a):cs=a:=by
 obtain⟨f,h,_⟩:=h;obtain⟨f',d,_⟩:=d
 grind
theorem Bk.fr {S:Nat->Prop} (h:Bk w g t cs) (m:Fr S w w') (d:¬S g):Bk w' g t cs:=by
 have n:=h.lt;obtain⟨f,h,a⟩:=h;exact⟨f,(m.block g n d).trans h,a⟩
theorem Bk.ext (h:Bk w g t cs) (a:Ext w w'):Bk w' g t cs:=h.fr a λd=>d
end
def BB (S:Nat->Prop) (w:World):Prop:=∀g,prog.globalNamed "internal/strconv.uint64pow10" =some g->g<w.heap.size/\¬S g/\Lib.TabIs prog w "internal/strconv.uint64pow10" .u64 Lib.pow10Tab
theorem BB.of {S a:Nat->Prop} (h:BB S w) (f:Fr S w w') (hs:∀b,a b->w.heap.size<=b∨S b):BB a w':=λg m=>by
 obtain⟨h1,n,d⟩:=h g m;refine⟨uY h1 f.size,fS,?_⟩;unfold Lib.TabIs at d⊢;rw[←d];unfold World.var?;rw[m];simp only[C4,f.block g h1 n]
theorem BB.init (h:Lib.TabIs prog w "internal/strconv.uint64pow10" .u64 Lib.pow10Tab):BB hG w:=λg d=>by
 refine⟨?_,λa=>a,h⟩
 grind [Nat.lt_or_ge,Array.size,Lib.TabIs,World.var?,Array.getElem?_eq_none]
structure Fm where
 S:Nat->Prop
 w:World
 ok:BB S w
def Fm.may (F:Fm) (b:Nat):Prop:=F.w.heap.size<=b∨F.S b
theorem rD {α:Type} {k i:Nat} {x:α} {l:List (Nat×α)}:Hb k ((i,x)::l)=if i=k then some x else Hb k l:=by
 show Bool.rec (motive:=λ_=>Option α) (Hb k l) (some x) (Nat.beq i k)=_
 rcases ke i k with⟨h1,a⟩|⟨h1,a⟩<;>simp_all
def ints (l:List (Nat×Nat)):List (Int×Int):=l.map λq=>((q.1:Int),(q.2:Int))
def TE (w0:Fm) (ρ:Pl) (mp:List (Nat×List (Nat×Nat))) (w:World):Prop:=(∀id l,Hb id mp=some l->∃p,ρ[id]? =some p/\tY w p.b (ints l)/\w0.may p.b)/\∀id a l l' p d,id≠a->Hb id mp=some l->Hb a mp=some l'->ρ[id]? =some p->ρ[a]? =some d->p.b≠d.b
theorem TE.nil (w0:Fm) (ρ:Pl) (w:World):TE w0 ρ [] w:=⟨λid l h=>(by cases h),λid a l l' p d _ h=>(by cases h)⟩
theorem TE.to {w0 w0':Fm} {ρ g:Pl} {mp:List (Nat×List (Nat×Nat))} (h:TE w0 ρ mp w) (hu:Up ρ g) (hm:∀b l,tY w b l->tY w' b l) (hw:∀b l,tY w b l->w0.may b->w0'.may b):TE w0' g mp w':=by
 have old:∀id l p,Hb id mp=some l->g[id]? =some p->ρ[id]? =some p:=λid l p h1 d=>by
  obtain⟨q,a,_⟩:=h.1 id l h1;have:=hu _ _ a
  grind
 refine⟨λid l h1=>?_,λid n l l' p s m h1 d a f=>h.2 id n l l' p s m h1 d (old _ _ _ h1 a) (old _ _ _ d f)⟩;obtain⟨p,d,a,f⟩:=h.1 id l h1;exact⟨p,hu _ _ d,hm _ _ a,hw _ _ a f⟩
theorem Bk.Ih {t:TypeId} {l:List (Int×Int)} (h:Bk w g t cs) (a:tY w g l):False:=by
 obtain⟨f,h1,_⟩:=h;obtain⟨es,clock,d,_⟩:=a
 grind
structure MR (w0:Fm) (ρ:Pl) (σ:Mem) (w:World):Prop where
 len:ρ.length=σ.n
 gH:∀id ob,jy σ id=some ob->(∃o,(hV ob.d o ob.m).isSome=true)->∃p cs,ρ[id]? =some p/\Bk w p.b ob.e cs/\p.c*p.z=cs.size/\(∀o x,hV ob.d o ob.m=some x->∃v,cs[o]? =some v/\CR ρ x v)
 old:Fr w0.S w0.w w
 xj:∀id o p,(hY σ id o).isSome=true->ρ[id]? =some p->w0.may p.b
 pre:∀id ob,jy σ id=some ob->∀o,ob.n<=o->hV ob.d o ob.m=none
 apart:∀id id' o o' p p',id≠id'->(hY σ id o).isSome=true->(hY σ id' o').isSome=true->ρ[id]? =some p->ρ[id']? =some p'->p.b≠p'.b
 yI:TE w0 ρ σ.mp w
def Cq (m:Nat) (e:En) (t:Nat):Option AV:=match kept m t with
 |true=>lp t e.vs
 |false=>lp t e.ts
def ER (m:Nat) (ρ:Pl) (e:En) (env:Env):Prop:=∀t a,Cq m e t=some a->∃v,look env t=some v/\AR ρ a v
theorem ER.up {m:Nat} {ρ d:Pl} {e:En} {env:Env} (hu:Up ρ d) (h:ER m ρ e env):ER m d e env:=λt a g=>by
 obtain⟨v,h1,f⟩:=h t a g;exact⟨v,h1,f.up hu⟩
end
section
theorem j9 {f:Mem} {id:Nat} {x:SV}:hY f id o=some x↔∃a,jy f id=some a/\hV a.d o a.m=some x:=by
 grind [hY]
theorem MR.at_ {ρ:Pl} {d:Mem} {w0:Fm} (h:MR w0 ρ d w) {id:Nat} {x:SV} (f:hY d id o=some x):∃p a cs v,ρ[id]? =some p/\jy d id=some a/\Bk w p.b a.e cs/\p.c*p.z=cs.size/\cs[o]? =some v/\CR ρ x v:=by
 obtain⟨a,h1,g⟩:=j9.1 f;obtain⟨p,cs,m,n,t,s⟩:=h.gH id a h1 fS
 grind
theorem MR.cell {ρ:Pl} {d:Mem} {w0:Fm} {w:World} (h:MR w0 ρ d w) {id o:Nat} {x:SV} (n:hY d id o=some x) {p:At} (m:ρ[id]? =some p):∃v,w.cell? ⟨p.b,o,none⟩=some v/\CR ρ x v/\w.frozen? ⟨p.b,o,none⟩=false:=by
 obtain⟨q,s,cs,v,h1,_,a,_,f,g⟩:=h.at_ n;rw[m]at h1;injection h1 with h1;subst h1
 exact⟨v,by rw[a.cell,f],g,a.frozen fS⟩
theorem MR.ext {ρ:Pl} {σ:Mem} {w0:Fm} {w w':World} (h:MR w0 ρ σ w) (hE:Ext w w'):MR w0 ρ σ w' where
 len:=h.len
 gH:=λid ob h1 h2=>by
  obtain⟨p,cs,h3,h4,h5⟩:=h.gH id ob h1 h2;exact⟨p,cs,h3,h4.ext hE,h5⟩
 old:=h.old.te hE
 xj:=h.xj
 pre:=h.pre
 apart:=h.apart
 yI:=h.yI.to (Up.refl ρ) (λ_ _ hb=>hb.ext hE) λ_ _ _ hb=>hb
theorem MR.as {w0:Fm} {ρ:Pl} {σ:Mem} {b:Nat} (h:MR w0 ρ σ w) (hF:Fr (λk=>k=b) w w') (h0:w0.may b) (hb:∀g t cs,Bk w g t cs->Bk w' g t cs) (hm:∀g l,tY w g l->tY w' g l):MR w0 ρ σ w' where
 len:=h.len
 gH:=λid ob h1 h2=>by
  obtain⟨p,cs,h3,h4,h5⟩:=h.gH id ob h1 h2
  grind
 old:=h.old.trans hF λj hj hh=>by
  have hh:j=b:=hh;subst hh;exact h0.resolve_left fy
 xj:=h.xj
 pre:=h.pre
 apart:=h.apart
 yI:=h.yI.to (Up.refl ρ) hm λ_ _ _ hb=>hb
theorem MR.below {ρ:Pl} {a:Mem} {w0:Fm} (h:MR w0 ρ a w) (id o:Nat) (p:At) (hs:(hY a id o).isSome=true) (f:ρ[id]? =some p):p.b<w.heap.size:=by
 obtain⟨x,g⟩:=qQ.1 hs;obtain⟨q,_,_,_,h1,_,d,_⟩:=h.at_ g;rw[f]at h1;injection h1 with h1;subst h1
 exact d.lt
theorem MR.more {ρ:Pl} {a s:Mem} {w0:Fm} {S:Nat->Prop} {f:Ob} (h:MR w0 ρ a w) (c z:Nat) (Z:c*z=cs.size) (L:s.n=a.n+1/\s.mp=a.mp) (he:f.e=e) (aj:∀o,f.n<=o->hV f.d o f.m=none) (ht:∀o x,hV f.d o f.m=some x->∃v,cs[o]? =some v/\CR ρ x v) (ad:jy s a.n=some f) (hk:∀k,k≠a.n->jy s k=jy a k)
  (W:Bk w' g e cs) (H:Fr S w w') (aa:∀id o p,(hY a id o).isSome=true->ρ[id]? =some p->p.b≠g/\¬S p.b) (X:∀b,S b->w0.may b) (ag:w0.may g) (Y:∀b l,tY w b l->¬S b:=by intro b l _ I;exact I):MR w0 (ρ++[⟨g,c,z⟩]) s w':=by
 have hu:=Up.snoc ρ ⟨g,c,z⟩;have ab:(ρ++[(⟨g,c,z⟩:At)])[a.n]? =some ⟨g,c,z⟩:=by rw[←h.len];simp
 have hold:∀id o p,id≠a.n->(hY s id o).isSome=true->(ρ++[(⟨g,c,z⟩:At)])[id]? =some p->(hY a id o).isSome=true/\ρ[id]? =some p/\p.b≠g:=λid o p J hs D=>by
  have Q:hY s id o=hY a id o:=by unfold hY;rw[hk id J]
  rw[Q]at hs;obtain⟨x,u⟩:=qQ.1 hs;obtain⟨q,E,cs,v,h1,_⟩:=h.at_ u
  grind
 refine⟨by simp[h.len,L.1],λid E h1 y=>?_,h.old.trans H λj ah I=>(X j I).resolve_left fy,λid o p hs D=>?_,λid E h1=>?_,λid K o o' p M J hs af D ae=>?_,by rw[L.2];exact h.yI.to hu (λb l C=>C.fr H (Y b l C)) λ_ _ _ C=>C⟩
 ·by_cases t:id=a.n
  ·subst t;rw[ad]at h1;injection h1 with h1;subst h1
   refine⟨_,_,ab,by rw[he];exact W,Z,λo x u=>?_⟩;obtain⟨v,B,G⟩:=ht o x u;exact⟨v,B,G.up hu⟩
  ·rw[hk id t]at h1;obtain⟨p,cs,B,G,T,R⟩:=h.gH id E h1 y;obtain⟨o,ai⟩:=y;refine⟨p,cs,hu _ _ B,G.fr H (aa id o p (by grind [hY]) B).2,T,λo x u=>?_⟩;obtain⟨v,U,V⟩:=R o x u;exact⟨v,U,V.up hu⟩
 ·by_cases t:id=a.n
  ·grind
  ·obtain⟨F,a2,_⟩:=hold id o p t hs D;exact h.xj id o p F a2
 ·by_cases t:id=a.n
  ·grind
  ·rw[hk id t]at h1;exact h.pre id E h1
 ·by_cases h1:id=a.n
  ·grind
  ·by_cases y:K=a.n
   ·grind
   ·obtain⟨F,a2,_⟩:=hold id o p h1 hs D;obtain⟨N,O,_⟩:=hold K o' M y af ae;exact h.apart id K o o' p M J F N a2 O
theorem MR.new {ρ:Pl} {a g:Mem} {w0:Fm} {l:List SV} {f:Ob} (h:MR w0 ρ a w) (c z:Nat) (B:c*z=cs.size) (D:g.n=a.n+1/\g.mp=a.mp) (he:f.e=e) (hq:f.n=l.length) (ht:∀o,hV f.d o f.m=l[o]?) (E:jy g a.n=some f) (hk:∀k,k≠a.n->jy g k=jy a k)
  (u:Bk w' w.heap.size e cs) (I:∀(o:Nat) v,vs[o]? =some v->cs[o]? =some v) (y:Ext w w') (C:jU ρ l vs):MR w0 (ρ++[⟨w.heap.size,c,z⟩]) g w':=
 h.more c z B D he fS (λo x t=>by
  rw[ht o]at t;obtain⟨v,G,H⟩:=C.get o x t
  grind) E hk u y (λid o p hs F=>⟨PV (h.below id o p hs F),λs=>s⟩) (λb s=>s.elim) (.inl h.old.size)
theorem AK.mem {d:Nat} {l:List SV} {m m':Tr SV} (h:AK d o l m m') (hs:∀i,i<l.length->(hV d (o+i) m).isSome=true) (k:Nat) (hk:(hV d k m').isSome=true):(hV d k m).isSome=true:=by
 rw[h k]at hk
 grind
theorem MR.wr {ρ:Pl} {s t:Mem} {w0:Fm} {id:Nat} {l:List SV} {a:Ob} {m':Tr SV} {p:At} {u:Array Value} (h:MR w0 ρ s w) (C:jy s id=some a) (D:AK a.d o l a.m m') (hs:∀i,i<l.length->(hV a.d (o+i) a.m).isSome=true) (N:t.n=s.n/\t.mp=s.mp) (H:jy t id=some ⟨a.e,a.d,a.n,m'⟩) (hk:∀k,k≠id->jy t k=jy s k)
  (v:ρ[id]? =some p) (M:Bk w p.b a.e cs) (T:Bk w' p.b a.e u) (Z:u.size=cs.size) (hc:∀k,u[k]? =if o<=k/\k<o+l.length then vs[k-o]? else cs[k]?) (G:Fr (λb=>b=p.b) w w') (V:jU ρ l vs) (W:0<l.length):MR w0 ρ t w':=by
 have h0:(hY s id o).isSome=true:=by
  have:=hs 0 W;unfold hY;rw[C];simpa using this
 have back:∀i k,(hY t i k).isSome=true->(hY s i k).isSome=true:=λi k f=>by
  by_cases hi:i=id
  ·subst hi;unfold hY at f⊢;rw[H]at f;rw[C];exact D.mem hs k f
  grind [hY]
 refine⟨h.len.trans N.1.symm,λi J h1 F=>?_,h.old.trans G λj ad f=>(by
  have f:j=p.b:=f;subst f
  exact(h.xj id o p h0 v).resolve_left fy),λi k q hs hq=>h.xj i k q (back i k hs) hq,λi J h1 k B=>?_,λi O k Q q ab X R a2 a3 a4=>h.apart i O k Q q ab X (back i k R) (back O Q a2) a3 a4,by rw[N.2];exact h.yI.to (Up.refl ρ) (λb l y=>y.fr G λe=>M.Ih (e▸y)) λ_ _ _ y=>y⟩
 case refine_2=>
  by_cases hi:i=id
  ·subst hi;rw[H]at h1;injection h1 with h1;subst h1
   show hV a.d k m'=none
   cases f:hV a.d k m' with
   |none=>rfl
   |some x=>
    have:=D.mem hs k (by rw[f];rfl);rw[h.pre i a C k B]at this;cases this
  ·rw[hk i hi]at h1;exact h.pre i J h1 k B
 by_cases hi:i=id
 ·subst hi;rw[H]at h1;injection h1 with h1;subst h1
  obtain⟨k0,B⟩:=F;have U:=D.mem hs k0 B;obtain⟨p2,L,g,E,S,K⟩:=h.gH i a C ⟨k0,U⟩;rw[v]at g;injection g with g;subst g
  have e:=E.one M;subst e;refine⟨p,u,v,T,by rw[Z];exact S,λk x aa=>?_⟩;have I:=D k;rw[show hV a.d k m'=some x from aa]at I;rw[hc k];split at I
  ·rename_i f;rw[if_pos f];exact V.get _ _ I.symm
  grind
 ·rw[hk i hi]at h1;obtain⟨q,L,g,E,K⟩:=h.gH i J h1 F;obtain⟨k,ae⟩:=F;have Y:q.b≠p.b:=h.apart i id k o q p hi (by grind [hY]) h0 g v;exact⟨q,L,g,E.fr G Y,K⟩
theorem MR.kill {ρ:Pl} {d a:Mem} {w0:Fm} {id:Nat} {p:At} (h:MR w0 ρ d w) (y:a.n=d.n/\a.mp=d.mp) (D:jy a id=some ⟨0,0,0,.nil⟩) (hk:∀k,k≠id->jy a k=jy d k) (u:ρ[id]? =some p) (h0:(hY d id o).isSome=true):MR w0 ρ a w/\∀i k q,(hY a i k).isSome=true->ρ[i]? =some q->q.b≠p.b:=by
 have back:∀i k,(hY a i k).isSome=true->i≠id/\(hY d i k).isSome=true:=by grind [hY,hV,kA]
 refine⟨⟨h.len.trans y.1.symm,λi f h1 t=>?_,h.old,λi k q hs hq=>h.xj i k q (back i k hs).2 hq,λi f h1 k v=>?_,λi g k m q C B s a2 a3 a4=>h.apart i g k m q C B (back i k s).2 (back g m a2).2 a3 a4,by grind [yI]⟩,λi k q hs hq=>?_⟩
 ·obtain⟨k,x⟩:=t;obtain⟨hi,_⟩:=back i k (by grind [hY]);rw[hk i hi]at h1;exact h.gH i f h1 ⟨k,x⟩
 ·by_cases hi:i=id
  ·grind [kA]
  ·rw[hk i hi]at h1;exact h.pre i f h1 k v
 ·obtain⟨hi,hs⟩:=back i k hs;exact h.apart i id k o q p hi hs h0 hq u
end
section
section
variable {res:Rs} (hr:res≠ .no)
include hr
theorem pZ {m t:Nat} {e:En} {k:AV->Rs} (h:(Qq m t).f e k=res):∃a,Cq m e t=some a/\k a=res:=by
 unfold Qq at h;unfold Cq;cases hk:kept m t with
 |true=>rw[hk]at h;exact vT hr h
 |false=>rw[hk]at h;exact vT hr h
theorem im {x:AV} {f:IntKind->Nat->Rs} (h:tX x f=res):∃k a,x= .v (.n k a)/\f k a=res:=by
 cases x with
 |v x=>cases x<;>first|exact⟨_,_,rfl,h⟩|exact absurd h.symm hr
 |_=>exact absurd h.symm hr
theorem uy {x:AV} {a b:Rs} (h:U9 x a b=res):(x= .v (.b true)/\a=res)∨(x= .v (.b false)/\b=res):=by
 cases x with
 | v x=>
  cases x with
  |b q=>
   cases q with
   |true=>exact .inl ⟨rfl,h⟩
   |false=>exact .inr ⟨rfl,h⟩
  |_=>exact absurd h.symm hr
 |_=>exact absurd h.symm hr
theorem ly {x:AV} {f:List Nat->Rs} (h:I7 x f=res):∃l,x= .v (.s l)/\f l=res:=by
 cases x with
 |v x=>cases x<;>first|exact⟨_,rfl,h⟩|exact absurd h.symm hr
 |_=>exact absurd h.symm hr
theorem lz {x:AV} {f:Nat->Nat->Rs} (h:Mp x f=res):∃id o,x= .v (.p id o)/\f id o=res:=by
 cases x with
 |v x=>cases x<;>first|exact⟨_,_,rfl,h⟩|exact absurd h.symm hr
 |_=>exact absurd h.symm hr
theorem ql {x:AV} {f:List SV->Rs} (h:VW x f=res):∃l,x= .g l/\f l=res:=by
 cases x<;>first|exact⟨_,rfl,h⟩|exact absurd h.symm hr
theorem UA {x:AV} {f:List TV->Rs} (h:onT x f=res):∃l,x= .t l/\f l=res:=by
 cases x<;>first|exact⟨_,rfl,h⟩|exact absurd h.symm hr
theorem S5 {x:AV} {f:Nat->List SV->Rs} (h:onF x f=res):∃g l,x= .f g l/\f g l=res:=by
 cases x<;>first|exact⟨_,_,rfl,h⟩|exact absurd h.symm hr
theorem vB {x:AV} {f:SV->Rs} {g:List SV->Rs} (h:TM x f g=res):(∃y,x= .v y/\f y=res)∨∃l,x= .g l/\g l=res:=by
 cases x with
 |v y=>exact .inl ⟨y,rfl,h⟩
 |g l=>exact .inr ⟨l,rfl,h⟩
 |_=>exact absurd h.symm hr
theorem oQ {x:AV} {f:IntKind->Int->Rs} (h:M9 x f=res):(∃k a,x= .v (.n k a)/\f k (.ofNat a)=res)∨∃k a,x= .v (.m k a)/\f k (.negSucc a)=res:=by
 cases x with
 |v x=>cases x<;>first|exact .inl ⟨_,_,rfl,h⟩|exact .inr ⟨_,_,rfl,h⟩|exact absurd h.symm hr
 |_=>exact absurd h.symm hr
end
theorem W8 {n:Nat} (h:n<=1099511627776):fwB n=fw n:=by
 cases n with
 |zero=>rw[Eg];rfl
 |succ n=>
  rw[OY fy fy];rfl
theorem yc {res:Rs} (d:res≠ .no) {x:AV} {f:Nat->Rs} (h:Yo x f=res):∃a,x= .v (.fl a)/\f a=res:=by
 cases x with
 |v x=>cases x<;>first|exact⟨_,rfl,h⟩|exact absurd h.symm d
 |_=>exact absurd h.symm d
theorem LC {res:Rs} (d:res≠ .no) {x:AV} {f:Nat->Nat->Rs} (h:onX x f=res):∃a b,x= .v (.cx a b)/\f a b=res:=by
 cases x with
 |v x=>cases x<;>first|exact⟨_,_,rfl,h⟩|exact absurd h.symm d
 |_=>exact absurd h.symm d
theorem Tb {res:Rs} (a:res≠ .no) {x:AV} {f:Rs} (h:onJ x f=res):x= .v .i0/\f=res:=by
 cases x with
 |v x=>cases x<;>first|exact⟨rfl,h⟩|exact absurd h.symm a
 |_=>exact absurd h.symm a
theorem Aq {ρ:Pl} {x:SV} (h:cS v=some x):SR ρ x v:=by
 unfold cS at h;split at h
 ·injection h with h;subst h;rfl
 ·split at h
  ·rename_i a;injection h with h;subst h;exact⟨rfl,mu⟩
  ·cases h
 ·split at h
  ·rename_i a;injection h with h;subst h
   rw[iO]at a;exact⟨rfl,mu,a.1⟩
  ·cases h
 ·split at h
  ·rename_i a;injection h with h;subst h
   refine⟨?_,?_,by simp_all⟩
   ·rename_i s _;obtain⟨l,rfl⟩:=V1 s
    have e:l.map (UInt8.ofNat∘UInt8.toNat)=l:=by
     rw[show(UInt8.ofNat∘UInt8.toNat)=id from funext mu];simp
    simp[jD,su,e]
   grind [UInt8.toNat_lt]
  ·cases h
 ·injection h with h;subst h;rfl
 ·split at h
  ·rename_i a;injection h with h;subst h
   rw[iO]at a;have d:=iY a.1;have f:=jd a.2;refine⟨?_,d⟩
   grind [W8]
  ·cases h
 ·injection h with h;subst h;rfl
 ·injection h with h;subst h;exact⟨rfl,by decide,by decide⟩
 ·injection h with h;subst h;rfl
 ·cases h
theorem VQ {x:SV} (h:cS v=some x):nu x=true:=by
 unfold cS at h;split at h<;>first|(injection h with h;subst h;rfl)|(split at h<;>first|(injection h with h;subst h;rfl)|cases h)|cases h
theorem yY {ρ:Pl}:∀{l:List Value} {r:List SV},cL l=some r->jU ρ r l
 |[],r,h=>by injection h with h;subst h;exact .nil
 | v::l,r,h=>by
  have d:(match cS v,cL l with
   |some a,some r=>some (a::r)
   |_,_=>none)=some r:=h
  split at d
  ·rename_i a g h1 f;injection d with d;subst d
   exact .cons ⟨VQ h1,Aq h1⟩ (yY f)
  ·cases d
theorem QF {ρ:Pl} {a:AV} (h:cA v=some a):AR ρ a v:=by
 unfold cA at h;split at h
 ·rename_i cs;split at h
  ·rename_i l d;injection h with h;subst h
   exact⟨cs.toList,yY d,by simp⟩
  ·cases h
 ·split at h
  ·rename_i x f;injection h with h;subst h
   exact Aq f
  ·cases h
section
variable {res:Rs} (hr:res≠ .no)
include hr
theorem UD {a:AV} {e:En} {k:AV->Rs} (h:(gtC a).f e k=res):k a=res:=by
 unfold gtC at h;cases a with
 |v x=>
  grind [cV,Vr]
 |g l=>
  grind [Ss,rr]
 |_=>exact absurd h.symm hr
theorem gk {m:Nat} {e:En} {k:AV->Rs} {ρ:Pl} {env:Env} (y:ER m ρ e env) (h:(iz m x).f e k=res):∃a v,gh env x=some v/\AR ρ a v/\k a=res:=by
 unfold iz at h;cases x with
 |tmp t=>
  obtain⟨a,h1,s⟩:=pZ hr h;obtain⟨v,u,w⟩:=y t a h1;exact⟨a,v,u,w,s⟩
 | const v=>
  cases n:cA v with
  |none=>
   grind [cA,gtC,Zs,absurd]
  | some a=>
   have d:(match cA v with
    |some a=>gtC a
    |none=>Zs).f e k=res:=h
   rw[n]at d;exact⟨a,v,rfl,QF n,UD hr d⟩
 |global g=>exact absurd h.symm hr
 |func f=>exact⟨.f f [],_,rfl,⟨[],.nil,rfl⟩,h⟩
end
end
section
def Good (w0:Fm) (ρ:Pl) (c:Kt) (res:Rs) (env:Env) (dst:Option Tmp):Env->World->Prop:=λf w'=>∃v d a val,c v d=res/\Up ρ a/\AR a v val/\MR w0 a d w'/\f=gp.put env dst val
section
variable {m:Nat} {ih:Cl} {e:En} {σ:Mem} {c:Kt} {res:Rs} {ρ:Pl} {env:Env} {w0:Fm} {w:World} {full:Array Oper} {d:Tmp} {ty:TypeId} {pos:String} {af:Array Edge} (hr:res≠ .no) (hE:ER m ρ e env) (hM:MR w0 ρ σ w)
include hr hE hM
theorem Xq (h:(Jz m (.move x)).f ih e σ c=res):xs prog fD fC [] gp.gL full (Good w0 ρ c res env (some d)) [⟨some d,.move x,ty,pos,af,none⟩] env w:=by
 obtain⟨a,v,h1,g,n⟩:=gk hr hE h;exact Im h1 ⟨a,σ,ρ,v,n,Up.refl ρ,g,hM,rfl⟩
theorem RD (h:(Jz m (.assign x)).f ih e σ c=res):xs prog fD fC [] gp.gL full (Good w0 ρ c res env (some d)) [⟨some d,.assign x,ty,pos,af,none⟩] env w:=by
 obtain⟨a,v,h1,g,n⟩:=gk hr hE h;exact Ij h1 ⟨a,σ,ρ,v,n,Up.refl ρ,g,hM,rfl⟩
theorem Ik (h:(Jz m (.nilCheck x)).f ih e σ c=res):xs prog fD fC [] gp.gL full (Good w0 ρ c res env (some d)) [⟨some d,.nilCheck x,ty,pos,af,none⟩] env w:=by
 obtain⟨a,v,h1,n,g⟩:=gk hr hE h;obtain⟨id,o,rfl,g⟩:=lz hr g;have s:=n;obtain⟨p,t,rfl⟩:=n;exact Ja h1 ⟨_,σ,ρ,_,g,Up.refl ρ,s,hM,rfl⟩
theorem XE {a b:Operand} (h:(Jz m (.pick x a b)).f ih e σ c=res):xs prog fD fC [] gp.gL full (Good w0 ρ c res env (some d)) [⟨some d,.pick x a b,ty,pos,af,none⟩] env w:=by
 obtain⟨q,v,h1,n,h⟩:=gk hr hE h;obtain⟨B,va,s,u,h⟩:=gk hr hE h;obtain⟨b',C,t,y,h⟩:=gk hr hE h;rcases uy hr h with⟨rfl,h⟩|⟨rfl,h⟩
 ·have g:v= .bool true:=n;subst g;exact H6 h1 s t fx ⟨_,σ,ρ,_,h,Up.refl ρ,u,hM,rfl⟩
 ·have g:v= .bool false:=n;subst g;exact H6 h1 s t fx ⟨_,σ,ρ,_,h,Up.refl ρ,y,hM,rfl⟩
end
end
section
section
variable {σ:Mem} {c:Kt} {res:Rs} {ρ:Pl} (hr:res≠ .no)
include hr
theorem xY {s:Nat} (h:Yb σ c k s=res):∃v,c (.v v) σ=res/\SR ρ v (.int k (k.wrap (Int.ofNat s))):=by
 cases k
 case i8|i16|i32|i64=>
  obtain⟨a,h⟩:=fO h hr;have a:=iY a;refine⟨_,h,?_,a⟩
  grind [IntKind.wrap,IntKind.signed,IntKind.bits]
 case u8|u16|u32|u64=>
  have d:=(gP _ _).symm.trans h;refine⟨_,d,?_,?_⟩
  ·simp[IntKind.wrap,IntKind.signed,IntKind.bits];exact(L1 s _).symm
  ·exact Nat.le_of_lt_succ (u0 s fV)
theorem Kk {s:Nat} (h:wrM σ c k s=res):∃v,c (.v v) σ=res/\SR ρ v (.int k (k.wrap (Int.negSucc s))):=by
 cases k
 case i8|i16|i32|i64=>
  obtain⟨a,h⟩:=fO h hr;have a:=iY a;refine⟨_,h,?_,a,rfl⟩
  grind [IntKind.wrap,IntKind.signed,IntKind.bits]
 case u8|u16|u32|u64=>
  have d:=(gP _ _).symm.trans h;refine⟨_,d,?_,Nat.sub_le _ _⟩;have e:Int.negSucc s= -(s+1:Int):=rfl;refine congrArg (Value.int _) ?_;have f:∀n,Nat.mod s n=s% n:=λ_=>rfl
  grind [IntKind.wrap,IntKind.signed,IntKind.bits]
theorem vx {s:Int} (h:RX σ c k s=res):∃v,c (.v v) σ=res/\SR ρ v (.int k (k.wrap s)):=by
 cases s with
 |ofNat s=>exact xY hr ((gP _ _).symm.trans h)
 |negSucc s=>exact Kk hr ((gP _ _).symm.trans h)
theorem iv {a:IntKind} {r:Rs} (h:sI k a r=res):k=a/\r=res:=by
 obtain⟨d,h⟩:=fO h hr;refine⟨?_,h⟩;cases k<;>cases a<;>first|rfl|cases d
theorem LS {f:IntKind->Nat->Nat->Rs} {g:IntKind->Int->Int->Rs} {x y:AV} {u:Value} (B:AR ρ x u) (w:AR ρ y v) (h:iiK f g x y=res):
  ∃k,(∃a b:Nat,u= .int k a/\v= .int k b/\a<=jt k/\b<=jt k/\f k a b=res)∨∃a b:Int,u= .int k a/\v= .int k b/\g k a b=res:=by
 cases x with
 | v x=>
  cases x with
  | n k a=>
   obtain⟨rfl,C⟩:=B;cases y with
   | v y=>
    cases y with
    |n t b=>
     obtain⟨d,s⟩:=iv hr (show sI k t (f k a b)=res from h);clear h;subst d;have h:=s;obtain⟨rfl,D⟩:=w
     grind
    |m t b=>
     obtain⟨d,s⟩:=iv hr (show sI k t (g k (.ofNat a) (.negSucc b))=res from h);clear h;subst d;have h:=s;obtain⟨rfl,_⟩:=w
     grind
    |_=>exact absurd h.symm hr
   |_=>exact absurd h.symm hr
  | m k a=>
   obtain⟨rfl,_⟩:=B;rcases oQ hr (show M9 y (λt b=>sI k t (g k (.negSucc a) b))=res from h)with⟨t,b,rfl,h⟩|⟨t,b,rfl,h⟩
   ·obtain⟨d,s⟩:=iv hr h;clear h;subst d;have h:=s;obtain⟨rfl,_⟩:=w
    grind
   ·obtain⟨d,s⟩:=iv hr h;clear h;subst d;have h:=s;obtain⟨rfl,_⟩:=w
    grind
  |_=>exact absurd h.symm hr
 |_=>exact absurd h.symm hr
end
end
end
end Go.Proofs.YtecaahegomdbbaaGreatDoor.gp.Rn
