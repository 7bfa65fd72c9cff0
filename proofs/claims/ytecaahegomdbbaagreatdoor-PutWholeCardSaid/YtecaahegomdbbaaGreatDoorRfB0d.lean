/- Parts of the proof. -/
import Derived.Test.YtecaahegomdbbaaGreatDoorRfB0c
set_option linter.all false
set_option maxRecDepth 100000
set_option maxHeartbeats 64000000
namespace Go.Proofs.YtecaahegomdbbaaGreatDoor.gp.Rn
open Go.Proofs.Tryz
open Go.RowKit
variable {af:Array Edge} {A:Array Nat} {ops:Array Oper} {cs:Array Value} {drawn:Bool} {e:En} {env:Env} {w0:Fm} {c:Kt} {hs:List Nat} {full l:List Oper} {vs:List Value} {N d f m n:Nat} {x:PF} {ρ:Pl} {res:Rs} {pos:String} {el t ty:TypeId} {v:Value} {w w':World}
section
theorem kC {d:Option Tmp} {t:Nat} (h:d≠some t):look (gp.put env d v) t=look env t:=by
 cases d with
 |none=>rfl
 |some k=>
  show look ((k,v)::env) t=_
  grind [kf]
theorem sb {hs:List Nat} {H:World->Prop} {full:Array Oper} {K:Env->World->Prop}:∀{l:List Oper} {env:Env} {w:World},xs prog fD fC hs H full K l env w->xs prog fD fC hs H full (λa w'=>K a w'/\∀t,(∀o∈l,o.dst≠some t)->look a t=look env t) l env w
 |[],_,_,h=>⟨h,λ_ _=>rfl⟩
 | o::l,env,w,⟨g,d,h1,f⟩=>by
  have step:∀v w',xs prog fD fC hs H full K l (gp.put env o.dst v) w'->xs prog fD fC hs H full (λa w'=>K a w'/\∀t,(∀o'∈o::l,o'.dst≠some t)->look a t=look env t) l (gp.put env o.dst v) w':=λv w' h=>
   gV (by grind [List.mem_cons_of_mem,kC,List.mem_cons_self]) (sb h)
  exact⟨g,d,by grind [qb],fS⟩
theorem Rl {d:Option Tmp} {op:Op} {a:Env} (f:∀x∈op.operands.toList,gh a x=gh env x) (h:fX env ⟨d,op,ty,pos,af,none⟩=true):fX a ⟨d,op,ty,pos,af,none⟩=true:=by
 grind [fX,List.all_eq_true]
def Made (ρ:Pl) (env:Env) (d:Tmp) (op:Op) (ty:TypeId) (pos:String) (af:Array Edge) (m:Mem) (c:Kt) (res:Rs):Prop:=
 ∃ (el:TypeId) (l:List SV) (vs:List Value) (cs:Array Value) (n z:Nat) (a:Nat->AV) (g:Nat->Value),qG m el l (λid m=>c (a id) m)=res/\jU ρ l vs/\(∀(o:Nat) v,vs[o]? =some v->cs[o]? =some v)/\n*z=cs.size/\(∀id b (s:Pl),s[id]? =some ⟨b,n,z⟩->AR s (a id) (g b))/\(∀t n' ps,op= .buildSlice t n' ps->elemOf t=some (el,z)/\cs=vs.toArray/\vs.length=n*z/\(a=λid=> .v (.lx id z 0 n n))/\g=λb=> .slice (some ⟨b,0,none⟩) n n)/\
   ∀(f:Env) (w:World),(∀x∈op.operands.toList,gh f x=gh env x)->fX f ⟨some d,op,ty,pos,af,none⟩=true/\(execOp (ev f) ⟨some d,op,ty,pos,af,none⟩).run prog w= .ok (.value (g w.heap.size)) (w.alloc (.cells cs el))
theorem Zf {u:Cl} {a:Mem} {d:Tmp} (n:res≠ .no) (h:(Y9 t (zA t)).f u e a c=res):Made ρ env d (.alloc t) ty pos af a c res:=by
 unfold Y9 at h;split at h
 ·rename_i z s;rw[rr]at h;obtain⟨i,v,hi,y,g⟩:=rP (ρ:=ρ) s;refine⟨t,z,_,v.cells,v.cells.size,1,_,λb=> .pointer (some ⟨b,0,none⟩),h,g,fS,by simp,λid b B m=>⟨_,m,rfl⟩,fS,λx w _=>⟨by simp[fX,Op.operands],?_⟩⟩
  simp_all [execOp,Instr.alloc,zeroValue,typeInfo,newVar,newRow]
 ·exact absurd h.symm n
theorem ZR {T:Cl} {E:Mem} {d:Tmp} (s:res≠ .no) (I:ER m ρ e env) {ps:List (Nat×Operand)} (hm:1<=n) (h:(rwW m n ps (elemOf t)).f T e E c=res):Made ρ env d (.buildSlice t n ps.toArray) ty pos af E c res:=by
 unfold rwW at h;split at h
 ·omega
 split at h
 ·rename_i el z J;obtain⟨hu,O⟩:=iR J;obtain⟨⟨S,C,B⟩,_⟩:=kc O;split at h
  ·rename_i zs R;split at h
   ·exact absurd h.symm s
   ·rename_i g;rw[iJ,iJ,rr]at h;obtain⟨k1,g⟩:=jh g;obtain⟨k2,g⟩:=jh g;obtain⟨k3,k4⟩:=jh g;have k1:=jd k1;have k2:=fy;have k3:=iY k3;have k4:n*z<=16777216:=mu;obtain⟨i,v,hi,Q,L⟩:=rP (ρ:=ρ) R;rw[C]at hi;obtain rfl:=jk hi;have D:=xX L n;rw[k1]at D;obtain⟨Y,l',u,h1,G,H,y,g1⟩:=xV s I h D;obtain⟨he,U⟩:=vj h1;have V:0<n*z:=Lr fy fy;have y:u.length=n*z:=by rw[y,pb,size_madeCells]
    refine⟨el,l',u,u.toArray,n,z,λid=> .v (.lx id z 0 n n),λb=> .slice (some ⟨b,0,none⟩) n n,g1,H,fS,by simp[y],λid b Z M=>⟨_,M,gJ _,by have:=RF n k3;grind [maxLen],by simp⟩,fS,λa w W=>?_⟩;have X:∀p∈ps,gh a p.2=gh env p.2:=by grind [Op.operands]
    have K:(ps.map λp=>(p.1,ev a p.2))=ps.map λp=>(p.1,ev env p.2):=by grind [List.map_congr_left,ev]
    have N:=run_buildSlice (P:=prog) w t el n ((ps.map λp=>(p.1,ev a p.2)).toArray) u.toArray S v hu C Q (by rw[B];omega) (by rw[B];omega) (by
     show Instr.fill _ _ (ps.map λp=>(p.1,ev a p.2))=_
     rw[K,he,B]
     exact G)
    refine⟨by grind [Rl,fX,Op.operands,List.all_eq_true],?_⟩;have F:(ps.toArray.map λx=>match x with|(i,x)=>(i,ev a x))=(ps.map λp=>(p.1,ev a p.2)).toArray:=by simp
    simp only[execOp];rw[F];simp[N]
  ·exact absurd h.symm s
 ·exact absurd h.symm s
theorem EB {u:Cl} {g:Mem} {d:Tmp} (a:res≠ .no) {op:Op} (hm:Bw op=true) (s:ER m ρ e env) (h:(Jz m op).f u e g c=res):Made ρ env d op ty pos af g c res:=by
 cases op with
 |alloc t=>exact Zf a h
 |buildSlice t n ps=>exact ZR (ps:=ps.toList) a s (iY hm) h
 |_=>cases hm
theorem RO {w0:Fm} {m:Nat} {d:Cl} {res:Rs} {k:Kr} (B:res≠ .no) (y:kr w0 d) {hs:List Nat} {full:List Oper}:∀{l:List Oper} {e:En} {a:Mem} {ρ:Pl} {env:Env} {w:World},ER m ρ e env->MR w0 ρ a w->(lg m hs full l).f d e a k=res->∃x w' g v u,k g v=res/\Up ρ u/\ER m u g x/\MR w0 u v w'/\∀t,(∀o∈l,o.dst≠some t)->look x t=look env t
 |[],e,a,ρ,env,w,n,s,h=>⟨env,w,e,a,ρ,h,Up.refl ρ,n,s,λ_ _=>rfl⟩
 |o::l,e,a,ρ,env,w,n,s,h=>by
  have E:(p9 m hs full o).f d e a (λe a=>(lg m hs full l).f d e a k)=res:=h;obtain⟨L,N,⟨g,v,O,h1,F,G,H,_⟩,M⟩:=ue (sb (L7 B y n s E));obtain⟨D,I,C,K,J,g1,g2,g3,g4,g5⟩:=RO B y G H h1;exact⟨D,I,C,K,J,g1,F.trans g2,g3,g4,fS⟩
theorem yG {d t:Nat}:∀{l:mB},lp t (mw d l)=if d=t then none else lp t l
 |[]=>by
  grind [lp,mw]
 |(k,x)::l=>by
  have a:mw d ((k,x)::l)=Bool.rec (motive:=λ_=>mB) ((k,x)::mw d l) (mw d l) (Nat.beq k d):=rfl;have f:=yG (d:=d) (t:=t) (l:=l);rw[a];cases hk:Nat.beq k d<;>grind [Nat.beq,Nat.eq_of_beq_eq_true,lp,mw,Nat.beq_refl]
theorem wq {d:Nat}:∀{l:mB},mw d (mw d l)=mw d l
 |[]=>rfl
 | (k,x)::l=>by
  have a:mw d ((k,x)::l)=Bool.rec (motive:=λ_=>mB) ((k,x)::mw d l) (mw d l) (Nat.beq k d):=rfl;rw[a];cases hk:Nat.beq k d with
  |true=>exact wq
  |false=>
   show Bool.rec (motive:=λ_=>mB) ((k,x)::mw d (mw d l)) (mw d (mw d l)) (Nat.beq k d)=_
   rw[hk,wq]
theorem Cd {d d2:Nat}:∀{l:mB},mw d (mw d2 l)=mw d2 (mw d l)
 |[]=>rfl
 | (k,x)::l=>by
  have a:∀(q:Nat) (r:mB),mw q ((k,x)::r)=Bool.rec (motive:=λ_=>mB) ((k,x)::mw q r) (mw q r) (Nat.beq k q):=λ_ _=>rfl
  have g:=Cd (d:=d) (d2:=d2) (l:=l);rw[a,a];cases hk:Nat.beq k d2 with
  |true=>
   cases f:Nat.beq k d<;>simp_all
  |false=>
   show mw d ((k,x)::mw d2 l)=_
   rw[a];cases f:Nat.beq k d<;>simp_all
theorem yn {d2:Nat}:kg d (kg d2 (kg d (kg d2 e)))=kg d (kg d2 e):=by
 grind [mw,Cd,wq,kg]
theorem DM {t:Nat}:Cq m (kg d e) t=if d=t then none else Cq m e t:=by
 grind [Cq,kg,kept,yG]
theorem ER.del (h:ER m ρ e env):ER m ρ (kg d e) env:=λt a f=>by
 rw[DM]at f;split at f
 ·cases f
 ·exact h t a f
theorem Mq {w0:Fm} {m:Nat} {g:Cl} {res:Rs} {k:Kr} (C:res≠ .no) (B:kr w0 g) {hs:List Nat} {full:List Oper} {d d2:Nat}:∀{l:List (Oper×Bool)} {e:En} {a:Mem} {ρ:Pl} {env:Env} {w:World},ER m ρ e env->MR w0 ρ a w->(nN m hs full d d2 l).f g e a k=res->∃y w' n x v,k n x=res/\Up ρ v/\ER m v n y/\MR w0 v x w'/\∀t,(∀o∈l.map Prod.fst,o.dst≠some t)->look y t=look env t
 |[],e,a,ρ,env,w,s,u,h=>⟨env,w,e,a,ρ,h,Up.refl ρ,s,u,λ_ _=>rfl⟩
 |(o,b)::l,e,a,ρ,env,w,s,u,h=>by
  have F:(p9 m hs full o).f g (kg d (kg d2 e)) a (λe a=>(nN m hs full d d2 l).f g e a k)=res:=h;obtain⟨M,O,⟨n,x,Q,h1,G,H,I,_⟩,N⟩:=ue (sb (L7 C B s.del.del u F));obtain⟨E,J,D,L,K,g1,g2,g3,g4,g5⟩:=Mq C B H I h1;exact⟨E,J,D,L,K,g1,G.trans g2,g3,g4,fS⟩
theorem jL.nN {w0:Fm} {m:Nat} {s:Cl} {res:Rs} {t:List Nt} {u:List Mem} {k:Kr} (n:res≠ .no) (g:kr w0 s) {hs:List Nat} {full:List Oper} {d d2:Nat} (hk:jL w0 m res t u k):∀l:List (Oper×Bool),jL w0 m res t u (λe a=>(nN m hs full d d2 l).f s e a k)
 |[]=>hk
 |(o,_)::l=>λe a ρ env w v x h=>jL.op (o:=o) n g (jL.nN n g hk l) (kg d (kg d2 e)) a ρ env w v.del.del x h
theorem IX {w0 L:Fm} {m:Nat} {G:Cl} {res:Rs} {I:Mem} {B:Pl} {ws:World} {x:List Nt} {H:List Mem} {k:Kr} (v:res≠ .no) (u:kr w0 G) (hk:jL w0 m res x H k) (F:∀n∈x,Bp I H n) (E:MR L B I ws) {hs0:List Nat} {full:List Oper} {d d2:Nat}:∀{l:List (Oper×Bool)} {e:En} {a:Mem} {ρ:Pl} {env:Env} {w:World},Up B ρ->ER m ρ e env->MR w0 ρ a w->(nN m hs0 full d d2 l).f G e a k=res->xs prog fD fC hs0 (HH B x) full.toArray (λD w'=>∃g C y,k g C=res/\Up ρ y/\ER m y g D/\MR w0 y C w') (l.map Prod.fst) env w
 |[],e,a,ρ,env,w,hu,s,t,h=>⟨e,a,ρ,h,Up.refl ρ,s,t⟩
 |(o,b)::l,e,a,ρ,env,w,hu,s,t,h=>by
  have h1:=oD v u (jL.nN v u hk l) F E (hs0:=hs0) (full:=full) (l:=[o]) hu ((s.del (d:=d2)).del (d:=d)) t h;rw[jm];refine oL (gV (λD w' K=>?_) h1);obtain⟨g,C,R,k1,k2,k3,k4⟩:=K;exact gV (λO Q ⟨J,N,M,q1,q2,q3,q4⟩=>⟨J,N,M,q1,k2.trans q2,q3,q4⟩) (IX v u hk F E (hu.trans k2) k3 k4 k1)
theorem HH.ext {d:Pl} {a:List Nt} (h:HH d a w) (f:Ext w w'):HH d a w':=λn m p vs s t j u g=>f.cell (h n m p vs s t j u g)
abbrev Fm.out {w0:Fm} {ρ:Pl} {g:Mem} {w a:World} (h:MR w0 ρ g w) (d:Ext w a):Fm:=⟨λb=>b≠w.heap.size/\w0.may b,a,w0.ok.of (h.old.te d) λ_ f=>f.2⟩
theorem MR.aaT {σ:Mem} {w1:World} (h:MR w0 ρ σ w) (hE:Ext w w1):MR (Fm.out h hE) ρ σ w1 where
 len:=h.len
 gH:=(h.ext hE).gH
 old:=Fr.refl _ _
 xj:=λid o p hs hp=> .inr ⟨PV (h.below id o p hs hp),h.xj id o p hs hp⟩
 pre:=h.pre
 apart:=h.apart
 yI:=h.yI.to (Up.refl ρ) (λ_ _ hb=>hb.ext hE) λ_ _ hb hm=> .inr ⟨PV hb.lt,hm⟩
theorem MR.back {g:Pl} {v s:Mem} {f:World} (h:MR w0 ρ v w) (u:Ext w f) (fW:w.heap.size<f.heap.size) (h1:MR (Fm.out h u) g s w'):MR w0 g s w'/\(∀id o p,(hY s id o).isSome=true->g[id]? =some p->p.b≠w.heap.size)/\∀t cs,Bk f w.heap.size t cs->Bk w' w.heap.size t cs:=by
 have hs:=h.old.size;refine⟨⟨h1.len,h1.gH,(h.old.te u).trans h1.old λj x m=>m.2.resolve_left fy,λid o p a b=>?_,h1.pre,h1.apart,h1.yI.to (Up.refl g) (λ_ _ n=>n) λb l _ hm=>?_⟩,λid o p a b=>?_,λt cs n=>n.fr h1.old λm=>m.1 fx⟩
 ·rcases h1.xj id o p a b with d|d
  ·have d:f.heap.size<=p.b:=d;exact .inl fy
  ·exact d.2
 ·rcases hm with d|d
  ·have d:f.heap.size<=b:=d;exact .inl fy
  ·exact d.2
 ·rcases h1.xj id o p a b with d|d<;>grind
theorem xR {g:Cl} (s:res≠ .no) {c:Kr} {a:Mem} {d:Tmp} {op:Op} (hm:Bw op=true) (h:(p9 m hs full ⟨some d,op,ty,pos,af,none⟩).f g e a c=res):(Jz m op).f g e a (λv a=>(FJ m (some d)).f e v λe=>c ⟨e.vs,e.ts,e.hs,a::e.ms⟩ a)=res:=by
 unfold p9 at h;split at h
 ·exact absurd h.symm s
 ·cases op with
  |alloc t=>exact h
  |buildSlice t n ps=>exact h
  |_=>cases hm
theorem x5 {hs:List Nat} {H:World->Prop} {full:Array Oper} {K:Env->World->Prop}:∀{l1 l2:List Oper} {env:Env} {w:World},xs prog fD fC hs H full (λd w'=>xs prog fD fC hs H full K l2 d w') l1 env w->xs prog fD fC hs H full K (l1++l2) env w
 |[],_,_,_,h=>h
 |_::_,_,_,_,⟨g,m,h1,f⟩=>⟨g,m,λa=>⟨(h1 a).1,qb (λ_ _ n=>x5 n) (h1 a).2⟩,λa=>x5 (f a)⟩
theorem early {ar:Fm} {G:Cl} {Z:Mem} {J:Pl} {ws:World} {H:List Nt} {X:List Mem} {k:Kr} (g:res≠ .no) (C:∀F,kr F G) (hk:∀F,jL F m res H X k) (U:∀n∈H,Bp Z X n) (T:MR ar J Z ws) {hs0:List Nat} {post:List Oper} {preB:List (Oper×Bool)} {d d2:Tmp} {op:Op} (hm:Bw op=true) (ao:cls fD fC op= .w)
  (aD:∀o∈preB.map Prod.fst,o.dst≠some d) (O:∀o∈preB.map Prod.fst,∀t,Operand.tmp t∈op.operands.toList->o.dst≠some t) (aH:Operand.tmp d∉op.operands.toList) {e:En} {y:Mem} {ρ:Pl} {env:Env} {w:World} (hu:Up J ρ) (R:ER m ρ e env) (E:MR w0 ρ y w) (aG:Cq m e d=none) (hH:HH J H w)
  (h:(nN m hs0 full d d2 preB).f G e y (λe y=>(p9 m hs0 full ⟨some d,op,ty,pos,af,none⟩).f G e y λe y=>(lg m hs0 full post).f G e y k)=res):
  xs prog fD fC hs0 (HH J H) full.toArray (λs w'=>∃L K Q,k L K=res/\Up ρ Q/\ER m Q L s/\MR w0 Q K w') (⟨some d,op,ty,pos,af,none⟩::(preB.map Prod.fst++post)) env w:=by
 have aq:∀{s:Env},(∀t,(∀o∈preB.map Prod.fst,o.dst≠some t)->look s t=look env t)->∀x∈op.operands.toList,gh env x=gh s x:=λ{s} N x ap=>by
  cases x with
  |tmp t=>exact(N t fS).symm
  |_=>rfl
 obtain⟨aA,wd,ed,aN,aM,d1,_,d3,_,d5⟩:=Mq g (C w0) R E h;obtain⟨el,l,vs,cs,n,z,ax,W,_,_,_,_,_,_,ad⟩:=EB (d:=d) (ty:=ty) (pos:=pos) (af:=af) g hm d3 (xR g hm d1);obtain⟨r1,r2⟩:=ad env w (aq d5);have M:Ext w (w.alloc (.cells cs el)):=Fr.alloc _ _ _;have al:=HH.ext hH M;refine xw r1 ao r2 ?_ al;have am:=E.aaT M
 have aj:ER m ρ e (gp.put env (some d) (W w.heap.size)):=λt a B=>by
  obtain⟨v,q1,q2⟩:=R t a B
  grind [kC]
 refine x5 ?_;refine gV (λs w' u=>?_) (sb (IX g (C _) (jL.op g (C _) (jL.XP g (C _) (hk _) post)) U T hu aj am h));obtain⟨⟨L,K,Y,c1,c2,c3,c4⟩,c5⟩:=u;obtain⟨g1,g2,g3⟩:=E.back M ir c4;have N:∀t,t≠d->(∀o∈preB.map Prod.fst,o.dst≠some t)->look s t=look env t:=by grind [kC]
 have aF:look s d=some (W w.heap.size):=by grind [gp.put,kf]
 obtain⟨ah,l',aK,ae,n',I,ay,aI,aa,a2,a3,a4,a5,_,ab⟩:=EB (d:=d) (ty:=ty) (pos:=pos) (af:=af) g hm c3 (xR g hm c1)
 obtain⟨_,r3⟩:=ab env w λx ap=>by
  cases x with
  |tmp t=>exact(N t fS fS).symm
  |_=>rfl
 rw[r2]at r3;injection r3 with V hw
 injection V with V
 have ai:Bk w' w.heap.size ah ae:=g3 _ _ (by rw[hw];exact fU.bk (fU.new _ _ _));obtain⟨aJ,av,q1,q2,q3,q4,q5,q6,q7⟩:=pA g aa
 have an:=g1.more (S:=hG) n' I a4 q1 q2 fS (λo x O=>by
  rw[q4 o]at O;obtain⟨v,aB,aC⟩:=a2.get o x O
  grind) q5 q6 ai (Fr.refl _ _) (λid o p s1 s2=>⟨g2 id o p s1 s2,λu=>u⟩) (λb u=>u.elim) (.inl E.old.size)
 obtain⟨D,t1,_,_,t4⟩:=lB q7;have aE:(Y++[(⟨w.heap.size,n',I⟩:At)])[K.n]? =some ⟨w.heap.size,n',I⟩:=by rw[←g1.len];simp
 have ak:ER m (Y++[(⟨w.heap.size,n',I⟩:At)]) ⟨D.vs,D.ts,D.hs,av::D.ms⟩ s:=λt a B=>by
  rcases t4 t a B with⟨u,rfl⟩|⟨u,B⟩
  ·grind
  ·obtain⟨v,s1,s2⟩:=c3 t a B;exact⟨v,s1,s2.up (Up.snoc _ _)⟩
 refine gV (λaz aL u=>?_) (oD g (C _) (hk _) U T ((hu.trans c2).trans (Up.snoc _ _)) ak an t1);obtain⟨ag,aw,au,v1,v2,v3,v4⟩:=u;exact⟨ag,aw,au,v1,(c2.trans (Up.snoc _ _)).trans v2,v3,v4⟩
theorem mG {l:List Oper}:∀{is:List Nat} {os:List Oper},sW l is=some os->is.map (l.toArray[·]?)=os.map some
 |[],os,h=>by
  have h:some []=some os:=h
  grind
 | i::is,os,h=>by
  have h:(match l[i]?,sW l is with
   |some o,some r=>some (o::r)
   |_,_=>none)=some os:=h
  split at h
  ·rename_i o r h1 a;obtain rfl:=jk h;rw[jm,jm,mG a,pB,h1]
  ·cases h
def xf (hs:List Nat) (H:World->Prop) (full:Array Oper) (K:Env->World->Prop) (f:Oper) (post:List Oper):List (Oper×Bool)->Env->World->Prop
 |[],env,w=>xs prog fD fC hs H full K (f::post) env w
 |(o,b)::pre,env,w=>(b=true->H w->xs prog fD fC hs H full K (f::(o::pre.map Prod.fst++post)) env w)/\xs prog fD fC hs H full (xf hs H full K f post pre) [o] env w
theorem XJ {H:World->Prop} {full:Array Oper} {K:Env->World->Prop} (d:uF full N A) {is l:List Nat} {ops:List Oper} (h1:rA fD fC hs full A l is []=true) (a:is.map (full[·]?)=ops.map some) (h:xs prog fD fC hs H full K ops env w):xg prog fD fC hs H full N K l env w:=
 (by grind [v8,gV,WB])
theorem yP {hs:List Nat} {H:World->Prop} {full:Array Oper} {K:Env->World->Prop}:∀{l1 l2:List Oper} {env:Env} {w:World},xs prog fD fC hs H full K (l1++l2) env w->xs prog fD fC hs H full (λd w'=>xs prog fD fC hs H full K l2 d w') l1 env w
 |[],_,_,_,h=>h
 |_::_,_,_,_,⟨g,m,h1,f⟩=>⟨g,m,λa=>⟨(h1 a).1,qb (λ_ _ n=>yP n) (h1 a).2⟩,λa=>yP (f a)⟩
theorem yq {hs:List Nat} {H:World->Prop} {full:Array Oper} {N:Nat} {A:Array Nat} {K:Env->World->Prop} (n:uF full N A) {f:Nat} {fo:Oper} (x:full[f]? =some fo) {post:List Nat} {v:List Oper} (I:post.map (full[·]?)=v.map some):∀{pre:List (Nat×Bool)} {kG:List (Oper×Bool)} {l:List Nat} {env:Env} {w:World},sY hs full A f post l pre=true->pre.map Prod.snd=kG.map Prod.snd->(pre.map Prod.fst).map (full[·]?)=(kG.map Prod.fst).map some->xf hs H full K fo v kG env w->xg prog fD fC hs H full N K l env w
 |[],[],l,env,w,h,_,_,u=>XJ n (show rA fD fC hs full A l (f::post) []=true from h) fS u
 |[],_::_,_,_,_,_,h,_,_=>by cases h
 |_::_,[],_,_,_,_,h,_,_=>by cases h
 | (i,b)::pre,(o,b')::kG,l,env,w,h,m,hm,u=>by
  rw[jm,jm,zE]at m;obtain⟨m,D⟩:=m;have m:b=b':=m;subst m;rw[jm,jm,jm,jm,zE]at hm;obtain⟨t,F⟩:=hm;have t:full[i]? =some o:=t;obtain⟨J,L⟩:=u;have one:sY hs full A f post (l.erase i) pre=true->xs prog fD fC hs H full (xg prog fD fC hs H full N K (l.erase i)) [o] env w:=λhq=>gV (λ_ _ hk=>yq n x I hq D F hk) L
  cases b with
  | false=>
   have h:((u6 fD fC hs full A l i||l.filter (lq full l)==[i])&&sY hs full A f post (l.erase i) pre)=true:=h;rw[iO,tK]at h;rcases h.1 with h1|h1
   ·grind [DN]
   ·have h1:l.filter (lq full l)=[i]:=by simpa using h1
    refine DT n fS λg o' s d=>?_
    rw[h1,kl]at s;subst s;rw[t]at d;obtain rfl:=jk d;exact one h.2
  | true=>
   have h:((l.filter (lq full l)==[i,f]||l.filter (lq full l)==[f,i])&&(rA fD fC hs full A (l.erase f) (i::pre.map Prod.fst++post) []&&sY hs full A f post (l.erase i) pre))=true:=h;rw[iO,iO,tK]at h;obtain⟨h1,y,B⟩:=h;have E:∀g,g∈l.filter (lq full l)->g=i∨g=f:=fS
   have Q:i∈l.filter (lq full l):=by
    rcases h1 with h1|h1
    ·grind
    ·grind
   intro G hc hw a C;refine DT n fS (λg o' s d=>?_) G hc hw a C;rcases E g s with rfl|rfl
   ·rw[t]at d;obtain rfl:=jk d;exact one B
   ·rw[x]at d;obtain rfl:=jk d;have M:=J rfl hw;refine oL (K:=xg prog fD fC hs H full N K (l.erase g)) (rest:=[]) ?_;refine gV (λO w' hk=>?_) (yP (l1:=[fo]) M);refine XJ n y (ops:=(o::kG.map Prod.fst)++v) ?_ hk
    grind
theorem XD {op:Op} (h:Bw op=true):cls fD fC op= .w:=by
 cases op<;>first|rfl|cases h
theorem sh {op:Op} {t:Nat} (h:mF op t=false):Operand.tmp t∉op.operands.toList:=by grind [mF,List.any_eq_false,Nat.beq_refl]
theorem kN {op:Op} {o:Oper} (h:ur d op o=true):o.dst≠some d/\∀t,Operand.tmp t∈op.operands.toList->o.dst≠some t:=by
 grind [ur,Bool.not_eq_true',Bool.or_eq_false_iff,Option.some.inj,Nat.beq_refl,sh]
theorem P6 {w0 X:Fm} {m:Nat} {g:Cl} {res:Rs} {R:Mem} {I:Pl} {ws:World} {M:List Nt} {Q:List Mem} {k:Kr} (u:res≠ .no) (t:∀F,kr F g) (hk:∀F,jL F m res M Q k) (H:∀n∈M,Bp R Q n) (G:MR X I R ws) {hs0:List Nat} {full post:List Oper} {d d2:Tmp} {op:Op} {ty:TypeId} {pos:String} {af:Array Edge} (hm:Bw op=true) (O:mF op d=false) {K:Env->World->Prop}
  (L:∀y w' s v N,k s v=res->Up I N->ER m N s y->MR w0 N v w'->K y w'):∀{preB:List (Oper×Bool)} {e:En} {a:Mem} {ρ:Pl} {env:Env} {w:World},uA d op preB=true->Up I ρ->ER m ρ e env->MR w0 ρ a w->
  (nN m hs0 full d d2 preB).f g e a (λe a=>(p9 m hs0 full ⟨some d,op,ty,pos,af,none⟩).f g e a λe a=>(lg m hs0 full post).f g e a k)=res->xf hs0 (HH I M) full.toArray K ⟨some d,op,ty,pos,af,none⟩ post preB env w
 |[],e,a,ρ,env,w,B,hu,D,E,h=>by
  refine gV (λy w' C=>?_) (oD u (t w0) (hk w0) H G (l:=⟨some d,op,ty,pos,af,none⟩::post) hu D E h);obtain⟨s,v,J,k1,k2,k3,k4⟩:=C;exact L _ _ s v J k1 (hu.trans k2) k3 k4
 | (o,b)::preB,e,a,ρ,env,w,B,hu,D,E,h=>by
  have U:uA d op preB=true:=by
   cases b with
   |true=>
    grind [ur,uA]
   |false=>exact B
  refine⟨λT hH=>?_,?_⟩
  ·subst T;have B:(ur d op o&&preB.all (λx=>ur d op x.1)&&uA d op preB)=true:=B;rw[iO,iO]at B;have W:∀o'∈((o,true)::preB).map Prod.fst,ur d op o'=true:=fS
   have S:(nN m hs0 full d d2 ((o,true)::preB)).f g (kg d (kg d2 e)) a (λe a=>(p9 m hs0 full ⟨some d,op,ty,pos,af,none⟩).f g e a λe a=>(lg m hs0 full post).f g e a k)=res:=by
    show(p9 m hs0 full o).f g (kg d (kg d2 (kg d (kg d2 e)))) a _=res
    rw[yn];exact h
   refine gV (λy w' C=>?_) (early (preB:=(o,true)::preB) u t hk H G hm (XD hm) (by grind [kN]) (λo' V=>(kN (W o' V)).2) (sh O) hu D.del.del E (by grind [DM]) hH S);obtain⟨s,v,J,k1,k2,k3,k4⟩:=C;exact L _ _ s v J k1 (hu.trans k2) k3 k4
  ·refine gV (λy w' C=>?_) (oD u (t w0) (jL.nN u (t w0) (jL.op u (t w0) (jL.XP u (t w0) (hk w0) post)) preB) H G (l:=[o]) hu ((D.del (d:=d2)).del (d:=d)) E h);obtain⟨s,v,J,k1,k2,k3,k4⟩:=C;exact P6 u t hk H G hm O L U (hu.trans k2) k3 k4 k1
theorem Lh {id:Nat} {a:Act} {K:Env->World->Prop} {Q:Exit->Act->World->Prop} (hs:List Nat) (H:World->Prop) (s:qB N l.toArray=true) (hq:Gw l.toArray (Region.before l.toArray)=true) (hw:H w.drew) (n:Fits N env a)
  (t:∀f d w',Fits N d f->K d w'->Q .normal f w')
  (h:uF l.toArray N (Region.before l.toArray)->xg prog fD fC hs H l.toArray N K (List.range l.toArray.size) env w.drew):(Code.region id l.toArray true).wp prog Q a w:=by
 have m:=gp.qt s hq;have g:=h m KH (λi o u hi=>fS) hw a n;rw[HP]at g;refine wp_region_any mixed ?_;refine Dr (P:=prog) (fD:=fD) (fC:=fC) (hs:=hs) (H:=H) m.a (K:=λf w'=>∃d,Fits N d f/\K d w') fS l.toArray.size _ (List.range l.toArray.size) a _ hw ir ir KH (λi=>?_) g
 simp_all
end
section
theorem UC {op:Op} (h:bsT op=some t):∃n ps,op= .buildSlice t n ps/\Bw op=true:=by
 unfold bsT at h;split at h
 ·rename_i t' n ps;split at h
  ·rename_i a;obtain rfl:=jk h;exact⟨n,ps,rfl,a⟩
  ·cases h
 ·cases h
theorem PL {op:Op} (h:Qz d t op=true):∃u el,op= .convert t u (.tmp d)/\fC u=true/\fC t=false/\elemOf t=some (el,1)/\kindOf el=some .u8:=by
 unfold Qz at h
 grind [Bool.not_eq_true',Nat.eq_of_beq_eq_true]
theorem CO {d2:Nat}:∀{l:List (Oper×Bool)},Pg d2 l=true->∀o∈l.map Prod.fst,o.dst≠some d2
 |[],_,o,a=>by cases a
 | x::l,h,o,a=>by
  have h:((match x.1.dst with
   |some t=>!Nat.beq t d2
   |none=>true)&&Pg d2 l)=true:=h
  rw[iO]at h;rw[jm]at a;rcases hX.1 a with rfl|a
  ·intro e
   simp_all
  ·exact CO h.2 o a
def xf2 (hs:List Nat) (H:World->Prop) (full:Array Oper) (K:Env->World->Prop) (f g:Oper) (post:List Oper):List (Oper×Bool)->Env->World->Prop
 |[],env,w=>xs prog fD fC hs H full K (f::g::post) env w
 |(o,b)::pre,env,w=>(b=true->H w->xs prog fD fC hs H full (xf hs H full K g post ((o,b)::pre)) [f] env w)/\xs prog fD fC hs H full (xf2 hs H full K f g post pre) [o] env w
theorem HW {hs:List Nat} {H:World->Prop} {full:Array Oper} {N:Nat} {A:Array Nat} {K:Env->World->Prop} (s:uF full N A) {f g:Nat} {fo go:Oper} (x:full[f]? =some fo) (I:full[g]? =some go) {post:List Nat} {y:List Oper} (J:post.map (full[·]?)=y.map some):∀{pre:List (Nat×Bool)} {kG:List (Oper×Bool)} {l:List Nat} {env:Env} {w:World},xb hs full A f g post l pre=true->pre.map Prod.snd=kG.map Prod.snd->(pre.map Prod.fst).map (full[·]?)=(kG.map Prod.fst).map some->xf2 hs H full K fo go y kG env w->xg prog fD fC hs H full N K l env w
 |[],[],l,env,w,h,_,_,v=>XJ s (show rA fD fC hs full A l (f::g::post) []=true from h) fS v
 |[],_::_,_,_,_,_,h,_,_=>by cases h
 |_::_,[],_,_,_,_,h,_,_=>by cases h
 | (i,b)::pre,(o,b')::kG,l,env,w,h,d,hm,v=>by
  have Q:=d;have S:=hm;rw[jm,jm,zE]at d;obtain⟨d,D⟩:=d;have d:b=b':=d;subst d;rw[jm,jm,jm,jm,zE]at hm;obtain⟨u,F⟩:=hm;have u:full[i]? =some o:=u;obtain⟨L,M⟩:=v;have one:xb hs full A f g post (l.erase i) pre=true->xs prog fD fC hs H full (xg prog fD fC hs H full N K (l.erase i)) [o] env w:=λhq=>gV (λ_ _ hk=>HW s x I J hq D F hk) M
  cases b with
  | false=>
   have h:((u6 fD fC hs full A l i||l.filter (lq full l)==[i])&&xb hs full A f g post (l.erase i) pre)=true:=h;rw[iO,tK]at h;rcases h.1 with h1|h1
   ·grind [DN]
   ·have h1:l.filter (lq full l)=[i]:=by simpa using h1
    refine DT s fS λn o' t m=>?_
    rw[h1,kl]at t;subst t;rw[u]at m;obtain rfl:=jk m;exact one h.2
  | true=>
   have h:((l.filter (lq full l)==[i,f]||l.filter (lq full l)==[f,i])&&(sY hs full A g post (l.erase f) ((i,true)::pre)&&xb hs full A f g post (l.erase i) pre))=true:=h;rw[iO,iO,tK]at h;obtain⟨h1,O,B⟩:=h;have E:∀n,n∈l.filter (lq full l)->n=i∨n=f:=fS
   have R:i∈l.filter (lq full l):=by
    rcases h1 with h1|h1
    ·grind
    ·grind
   intro G hc hw a C;refine DT s fS (λn o' t m=>?_) G hc hw a C;rcases E n t with rfl|rfl
   ·rw[u]at m;obtain rfl:=jk m;exact one B
   ·rw[x]at m;obtain rfl:=jk m;exact gV (by grind [yq]) (L fx hw)
def GV (t u el:TypeId) (cs:Array Value) (n:Nat) (r:List Nat):Prop:=(∀c∈r,c<256)/\r.length<=maxLen/\∀(b:Nat) (w:World),Bk w b el cs->(convert t u (.slice (some ⟨b,0,none⟩) n n)).run prog w= .ok (.string (su (jD r))) w
theorem GV.one {u:TypeId} {r d:List Nat} (h:GV t u el cs n r) (f:GV t u el cs n d) {b:Nat} (a:Bk w b el cs):su (jD r)=su (jD d):=by
 have h1:=h.2.2 b w a;rw[f.2.2 b w a]at h1
 grind
theorem Bk.cellAt {b:Nat} (h:Bk w b el cs) {j:Nat} (a:cs[j]? =some v):w.cell? ⟨b,j,none⟩=some v:=(h.cell j).trans a
theorem WL {d:Mem} {z id a j q:Nat} {k:Nat->List SV->Rs}:Ye d z (.v (.lx id a j n q)) k=J6 d id (Nat.mul j a) (Nat.mul n z) λl=>k n l:=rfl
theorem Vf {J:Cl} (B:res≠ .no) {hs0:List Nat} {c:Kr} {g:Mem} {d d2:Tmp} {u:TypeId} {id:Nat} {C:Ob} {l:List SV} (y:fC u=true) (M:fC t=false) (F:elemOf t=some (el,1)) (G:kindOf el=some .u8) (H:nK hs0 (some d2)=false)
  (R:∀a,Cq m e d=some a->a= .v (.lx id 1 0 n n)) (aa:jy g id=some C) (Y:∀o,hV C.d o C.m=l[o]?) (I:jU ρ l vs) (hlen:vs.length=n)
  (h:(p9 m hs0 full ⟨some d2,.convert t u (.tmp d),ty,pos,af,none⟩).f J e g c=res):∃r e',GV t u el vs.toArray n r/\c e' g=res/\e'.hs=e.hs/\e'.ms=e.ms/\∀x a,Cq m e' x=some a->(some d2=some x/\a= .v (.s r))∨(some d2≠some x/\Cq m e x=some a):=by
 have O:cls fD fC (.convert t u (.tmp d))= .r:=by simp[cls,DO y,y]
 have S:kindOf u=none:=by
  cases hk:kindOf u with
  |none=>rfl
  |some k=>
   have h1:=DO y
   grind [fD]
 unfold p9 at h;split at h
 ·exact absurd h.symm B
 ·dsimp only at h;rw[O]at h;dsimp only at h;rw[H]at h;have h:(Xe m t u (.tmp d)).f J e g (λv W=>(FJ m (some d2)).f e v λe=>c e W)=res:=h;clear H
  have Q:Xe m t u (.tmp d)=⟨λ_ e g c=>(iz m (.tmp d)).f e λv=>Ye g 1 v λ_ l=>byK l λl=>jb (Nat.ble l.length maxLen) (c (.v (.s l)) g)⟩:=by
   unfold Xe;simp only[S,y,M,F,G]
  rw[Q]at h;obtain⟨a,h1,E⟩:=pZ B (show(Qq m d).f e _=res from h);have N:=R a h1;subst N;rw[WL]at E;obtain⟨ab,l',g3,g4,g5,g6⟩:=l6 B E;have K:Nat.mul 0 1=0:=rfl;have D:Nat.mul n 1=n:=ph n;rw[K,D]at g5;rw[D]at g4;have Z:l.length=n:=by rw[←hlen,I.len]
  have T:l'=l:=by
   apply vm;intro i
   by_cases hi:i<n
   ·grind [hY]
   ·grind
  subst T;obtain⟨r,f1,f2,f3,f4⟩:=xQ B g6 I;obtain⟨X,f5⟩:=fO f4 B;obtain⟨e',k1,k3,k4,k2⟩:=lB f5;refine⟨r,e',⟨f2,mu,λb w L=>?_⟩,k1,k3,k4,k2⟩;obtain⟨V,_⟩:=iR F
  have U:(jD r).length=n:=by
   have h0:(jD r).length=r.length:=jF _;omega
  have:=run_convert_bytes_back (P:=prog) w t u el ⟨b,0,none⟩ n (jD r) V (iF G) (hR y) (λi hi=>by
   rw[nf,iC];refine L.cellAt ?_
   grind)
  rw[U]at this;exact this
theorem ER.QW (h:ER m ρ e env):ER m ρ (kg d e) (gp.put env (some d) v):=λt a f=>by
 rw[DM]at f;split at f
 ·cases f
 ·rename_i n;obtain⟨u,h1,g⟩:=h t a f
  grind [kC,Option.some.inj]
theorem w8:look (gp.put env (some d) v) d=some v:=by simp[gp.put,kf]
theorem Nz {a:Array Value} {d:TypeId} (h:w.alloc (.cells cs el)=w.alloc (.cells a d)):cs=a/\el=d:=by
 grind [fU,Array.size,fU.new]
section
variable {w0:Fm} {m:Nat} {ih:Cl} {res:Rs} (hr:res≠ .no) {hs0:List Nat} {full:List Oper} {d:Tmp} {t:TypeId} {nn:Nat} {ps:Array (Nat×Operand)} {ty:TypeId} {pos:String} {af:Array Edge} (hm:Bw (.buildSlice t nn ps)=true) {el0:TypeId} (U8:elemOf t=some (el0,1)) {ρ:Pl} {σ:Mem} {w:World} (hM:MR w0 ρ σ w) {el:TypeId} {cs:Array Value} {n:Nat} (R8:Ext w (w.alloc (.cells cs el))) {Il:Env} (NU:(execOp (ev Il) ⟨some d,.buildSlice t nn ps,ty,pos,af,none⟩).run prog w= .ok (.value (.slice (some ⟨w.heap.size,0,none⟩) n n)) (w.alloc (.cells cs el)))
include hr hm U8 hM R8 NU
theorem RK {s:Pl} {C:Mem} {H:En} {E:Env} (c3:ER m s H E) (c4:MR (Fm.out hM R8) s C w') (ab:look E d=some (.slice (some ⟨w.heap.size,0,none⟩) n n)) (T:∀x∈(Op.buildSlice t nn ps).operands.toList,gh Il x=gh E x) {c:Kr} (c1:(p9 m hs0 full ⟨some d,.buildSlice t nn ps,ty,pos,af,none⟩).f ih H C c=res):
  ∃l vs F u B,c F u=res/\ER m (s++[(⟨w.heap.size,n,1⟩:At)]) F E/\MR w0 (s++[(⟨w.heap.size,n,1⟩:At)]) u w'/\(∀a,Cq m F d=some a->a= .v (.lx C.n 1 0 n n))/\jy u C.n=some B/\(∀o,hV B.d o B.m=l[o]?)/\jU s l vs/\cs=vs.toArray/\vs.length=n/\el=el0/\Bk w' w.heap.size el cs:=by
 obtain⟨g1,g2,g3⟩:=hM.back R8 ir c4;obtain⟨X,l',U,W,n',ae,V,ad,K,a2,a3,a4,a5,M,L⟩:=EB (d:=d) (ty:=ty) (pos:=pos) (af:=af) hr hm c3 (xR hr hm c1);obtain⟨k1,k2,k3,k4,k5⟩:=M t nn ps rfl;rw[U8]at k1;injection k1 with k1
 injection k1 with k1 k6
 subst k1;subst k6;subst k4;subst k5;obtain⟨_,r3⟩:=L Il w T;rw[NU]at r3;injection r3 with G hw
 injection G with G
 injection G with _ R _
 subst R;obtain⟨O,Q⟩:=Nz hw;subst O;subst Q;have I:Bk w' w.heap.size el cs:=g3 _ _ (fU.bk (fU.new _ _ _));obtain⟨B,u,q1,q2,q3,q4,q5,q6,q7⟩:=pA hr K
 have N:=g1.more (S:=hG) n 1 a4 q1 q2 fS (λo x J=>by
  rw[q4 o]at J;obtain⟨v,Y,Z⟩:=a2.get o x J
  grind) q5 q6 I (Fr.refl _ _) (λid o p s1 s2=>⟨g2 id o p s1 s2,λg=>g⟩) (λb g=>g.elim) (.inl hM.old.size)
 obtain⟨D,t1,_,_,t4⟩:=lB q7;have aa:(s++[(⟨w.heap.size,n,1⟩:At)])[C.n]? =some ⟨w.heap.size,n,1⟩:=by rw[←g1.len];simp
 refine⟨l',U,⟨D.vs,D.ts,D.hs,u::D.ms⟩,u,B,t1,λx a y=>?_,N,λa y=>?_,q5,q4,a2,k2,fy,rfl,I⟩
 ·rcases t4 x a y with⟨g,rfl⟩|⟨g,y⟩
  ·grind
  ·obtain⟨v,s1,s2⟩:=c3 x a y;exact⟨v,s1,s2.up (Up.snoc _ _)⟩
 ·rcases t4 d a y with⟨_,rfl⟩|⟨g,_⟩<;>grind
variable (tQ:∀F,kr F ih) {w00:Fm} {UL:Pl} {σ0:Mem} {ws:World} {nh:List Nt} {nm:List Mem} {k:Kr} (hk:∀F,jL F m res nh nm k) (Yu:∀n∈nh,Bp σ0 nm n) (Yf:MR w00 UL σ0 ws) {post:List Oper} {d2:Tmp} {u:TypeId} {Xy:TypeId} {Jy:String} {WC:Array Edge} (hS:fC u=true) (hSt:fC t=false) (hk8:kindOf el0=some .u8) (OD:nK hs0 (some d2)=false) {K:Env->World->Prop}
 (hK:∀Gv w' e1 Nb ρ',k e1 Nb=res->Up UL ρ'->ER m ρ' e1 Gv->MR w0 ρ' Nb w'->K Gv w')
include tQ hk Yu Yf hS hSt hk8 OD hK
theorem qK {preB:List (Oper×Bool)} (C:∀o∈preB.map Prod.fst,ur d (.buildSlice t nn ps) o=true) (V:∀o∈preB.map Prod.fst,o.dst≠some d2) {Nb:Mem} {B:Pl} {r:List Nat} (hu:Up UL B) (N:ER m B e env) (c4:MR (Fm.out hM R8) B Nb w') (R:look env d=some (.slice (some ⟨w.heap.size,0,none⟩) n n)) (T:look env d2=some (.string (su (jD r)))) (W:∀x∈(Op.buildSlice t nn ps).operands.toList,gh Il x=gh env x) (Q:GV t u el cs n r)
  (h:(nN m hs0 full d d2 preB).f ih e Nb (λe σ=>(p9 m hs0 full ⟨some d,.buildSlice t nn ps,ty,pos,af,none⟩).f ih e σ λe σ=>(p9 m hs0 full ⟨some d2,.convert t u (.tmp d),Xy,Jy,WC,none⟩).f ih e σ λe σ=>(lg m hs0 full post).f ih e σ k)=res):
  xs prog fD fC hs0 (HH UL nh) full.toArray K (preB.map Prod.fst++post) env w':=by
 refine x5 ?_;refine gV (λGv ai g=>?_) (sb (IX hr (tQ _) (jL.op hr (tQ _) (jL.op hr (tQ _) (jL.XP hr (tQ _) (hk _) post))) Yu Yf hu N c4 h));obtain⟨⟨ab,ak,F,G,H,I,J⟩,L⟩:=g;have v:∀x,(∀o∈preB.map Prod.fst,o.dst≠some x)->look Gv x=look env x:=L;have S:=(v d λo y=>(kN (C o y)).1).trans R;have U:=(v d2 V).trans T
 have X:∀x∈(Op.buildSlice t nn ps).operands.toList,gh Il x=gh Gv x:=λx E=>(W x E).trans (by
  cases x with
  |tmp q=>exact(v q λo y=>(kN (C o y)).2 q E).symm
  |_=>rfl)
 obtain⟨l,vs,ad,al,ag,c1,c2,c3,c5,c6,c7,c8,c9,AZ,xS,Cf⟩:=RK hr hm U8 hM R8 NU I J S X G;obtain⟨ah,e4,q1,q2,q3,q4,q5⟩:=Vf hr hS hSt U8 hk8 OD c5 c6 c7 c8 AZ c1;subst xS;subst c9;have Y:=q1.one Q Cf
 have O:ER m (F++[(⟨w.heap.size,n,1⟩:At)]) e4 Gv:=λx a s=>by
  rcases q5 x a s with⟨g,rfl⟩|⟨_,s⟩
  ·injection g with g
   subst g;exact⟨_,U,by rw[←Y];exact⟨rfl,q1.1,q1.2.1⟩⟩
  ·exact c2 x a s
 have D:Up UL (F++[(⟨w.heap.size,n,1⟩:At)]):=(hu.trans H).trans (Up.snoc _ _);refine gV (λae aj g=>?_) (oD hr (tQ _) (hk _) Yu Yf D O c3 q2);obtain⟨M,aa,Z,v1,v2,v3,v4⟩:=g;exact hK _ _ M aa Z v1 (D.trans v2) v3 v4
theorem stB (Y:mF (.buildSlice t nn ps) d2=false) (W:d≠d2):∀{preB:List (Oper×Bool)} (_:∀o∈preB.map Prod.fst,ur d (.buildSlice t nn ps) o=true) (_:∀o∈preB.map Prod.fst,o.dst≠some d2) {e:En} {Nb:Mem} {a:Pl} {env:Env} {w':World} (_:Up UL a) (_:ER m a e env) (_:MR (Fm.out hM R8) a Nb w') (_:look env d=some (.slice (some ⟨w.heap.size,0,none⟩) n n)) (_:∀x∈(Op.buildSlice t nn ps).operands.toList,gh Il x=gh env x)
  (_:(nN m hs0 full d d2 preB).f ih e Nb (λe σ=>(p9 m hs0 full ⟨some d,.buildSlice t nn ps,ty,pos,af,none⟩).f ih e σ λe σ=>(p9 m hs0 full ⟨some d2,.convert t u (.tmp d),Xy,Jy,WC,none⟩).f ih e σ λe σ=>(lg m hs0 full post).f ih e σ k)=res),
  xf hs0 (HH UL nh) full.toArray K ⟨some d2,.convert t u (.tmp d),Xy,Jy,WC,none⟩ post preB env w'
 |[],D,E,e,Nb,a,env,w',hu,g,c4,C,s,h=>by
  obtain⟨l,vs,N,ab,Z,c1,c2,c3,_⟩:=RK hr hm U8 hM R8 NU g c4 C s (show(p9 m hs0 full ⟨some d,.buildSlice t nn ps,ty,pos,af,none⟩).f ih e Nb (λe σ=>(p9 m hs0 full ⟨some d2,.convert t u (.tmp d),Xy,Jy,WC,none⟩).f ih e σ λe σ=>(lg m hs0 full post).f ih e σ k)=res from h);have F:Up UL (a++[(⟨w.heap.size,n,1⟩:At)]):=hu.trans (Up.snoc _ _);refine gV (λag aj B=>?_) (oD hr (tQ _) (hk _) Yu Yf (l:=⟨some d2,.convert t u (.tmp d),Xy,Jy,WC,none⟩::post) F c2 c3 c1);obtain⟨O,ad,aa,v1,v2,v3,v4⟩:=B;exact hK _ _ O ad aa v1 (F.trans v2) v3 v4
 | (o,b)::preB,D,E,e,Nb,a,env,w',hu,g,c4,C,s,h=>by
  refine⟨λ_ _=>?_,?_⟩
  ·
   obtain⟨Q,wd,ed,an,al,d1,_,d3,d4,d5⟩:=Mq hr (tQ _) g c4 h
   have X:∀x∈(Op.buildSlice t nn ps).operands.toList,gh Il x=gh Q x:=λx v=>(s x v).trans (by
    cases x with
    |tmp q=>exact(d5 q (by grind [kN])).symm
    |_=>rfl)
   obtain⟨l,vs,N,ab,Z,G,_,_,a5,J,L,M,a9,H,I,_⟩:=RK hr hm U8 hM R8 NU d3 d4 (by grind [kN]) X d1;obtain⟨r,_,y,_⟩:=Vf hr hS hSt U8 hk8 OD a5 J L M H G;rw[←I,←a9]at y;obtain⟨_,_,g3⟩:=hM.back R8 ir c4;have S:Bk w' w.heap.size el cs:=g3 _ _ (fU.bk (fU.new _ _ _))
   have T:iT fD fC hs0 ⟨some d2,.convert t u (.tmp d),Xy,Jy,WC,none⟩= .r:=by
    have:cls fD fC (.convert t u (.tmp d))= .r:=by simp[cls,DO hS,hS]
    simp[iT,this,OD]
   have U:gh env (.tmp d)=some (.slice (some ⟨w.heap.size,0,none⟩) n n):=C;refine gR fx (by grind [fX,Op.operands]) ?_;rw[T];refine⟨.string (su (jD r)),by simp[execOp,fM U,y.2.2 _ _ S],?_⟩
   have R:(nN m hs0 full d d2 ((o,b)::preB)).f ih (kg d (kg d2 e)) Nb (λe σ=>(p9 m hs0 full ⟨some d,.buildSlice t nn ps,ty,pos,af,none⟩).f ih e σ λe σ=>(p9 m hs0 full ⟨some d2,.convert t u (.tmp d),Xy,Jy,WC,none⟩).f ih e σ λe σ=>(lg m hs0 full post).f ih e σ k)=res:=by
    show(p9 m hs0 full o).f ih (kg d (kg d2 (kg d (kg d2 e)))) Nb _=res
    rw[yn];exact h
   refine qK hr hm U8 hM R8 NU tQ hk Yu Yf hS hSt hk8 OD hK (preB:=(o,b)::preB) D E (e:=kg d (kg d2 e)) hu g.QW.del c4 ?_ w8 (λx v=>(s x v).trans ?_) y R
   ·grind [kC,Option.some.inj]
   ·cases x with
    |tmp q=>exact(kC (by grind [sh,Option.some.inj])).symm
    |_=>rfl
  ·refine gV (λGv ai B=>?_) (sb (oD hr (tQ _) (jL.nN hr (tQ _) (jL.op hr (tQ _) (jL.op hr (tQ _) (jL.XP hr (tQ _) (hk _) post))) preB) Yu Yf (l:=[o]) hu ((g.del (d:=d2)).del (d:=d)) c4 h));obtain⟨⟨ae,am,ak,k1,k2,k3,k4⟩,k5⟩:=B;have ah:o∈((o,b)::preB).map Prod.fst:=by rw[jm];exact jQ
   have V:∀x,o.dst≠some x->look Gv x=look env x:=fS
   exact stB Y W (preB:=preB) fS fS (hu.trans k2) k3 k4 (by grind [kN]) (λx v=>(s x v).trans (by
    cases x with
    |tmp q=>exact(V q (by grind [kN])).symm
    |_=>rfl)) k1
end
theorem LQ {w0 aq:Fm} {m:Nat} {v:Cl} {res:Rs} {aj:Mem} {O:Pl} {ws:World} {T:List Nt} {ah:List Mem} {k:Kr} (s:res≠ .no) (y:∀F,kr F v) (hk:∀F,jL F m res T ah k) (L:∀n∈T,Bp aj ah n) (J:MR aq O aj ws) {hs0:List Nat} {full post:List Oper} {d d2:Tmp} {t u V:TypeId} {g:Nat} {ps:Array (Nat×Operand)} {ty N:TypeId} {pos M:String} {af H:Array Edge} (hm:Bw (.buildSlice t g ps)=true) (Z:elemOf t=some (V,1)) (X:fC u=true) (Y:fC t=false) (ab:kindOf V=some .u8) (ad:nK hs0 (some d2)=false) (ap:mF (.buildSlice t g ps) d=false) (ag:mF (.buildSlice t g ps) d2=false) (ae:d≠d2) {K:Env->World->Prop}
  (R:∀I w' C G U,k C G=res->Up O U->ER m U C I->MR w0 U G w'->K I w'):∀{preB:List (Oper×Bool)} {e:En} {a:Mem} {ρ:Pl} {env:Env} {w:World},uA d (.buildSlice t g ps) preB=true->(∀o∈preB.map Prod.fst,o.dst≠some d2)->Up O ρ->ER m ρ e env->MR w0 ρ a w->
  (nN m hs0 full d d2 preB).f v e a (λe a=>(p9 m hs0 full ⟨some d,.buildSlice t g ps,ty,pos,af,none⟩).f v e a λe a=>(p9 m hs0 full ⟨some d2,.convert t u (.tmp d),N,M,H,none⟩).f v e a λe a=>(lg m hs0 full post).f v e a k)=res->xf2 hs0 (HH O T) full.toArray K ⟨some d,.buildSlice t g ps,ty,pos,af,none⟩ ⟨some d2,.convert t u (.tmp d),N,M,H,none⟩ post preB env w
 |[],e,a,ρ,env,w,E,aa,hu,D,B,h=>by
  refine gV (λI w' S=>?_) (oD s (y w0) (hk w0) L J (l:=⟨some d,.buildSlice t g ps,ty,pos,af,none⟩::⟨some d2,.convert t u (.tmp d),N,M,H,none⟩::post) hu D B h);obtain⟨C,G,ai,k1,k2,k3,k4⟩:=S;exact R _ _ C G ai k1 (hu.trans k2) k3 k4
 | (o,b)::preB,e,a,ρ,env,w,E,aa,hu,D,B,h=>by
  have an:uA d (.buildSlice t g ps) preB=true:=by
   cases b with
   |true=>
    grind [ur,uA]
   |false=>exact E
  refine⟨λam hH=>?_,?_⟩
  ·subst am;have E:(ur d (.buildSlice t g ps) o&&preB.all (λx=>ur d (.buildSlice t g ps) x.1)&&uA d (.buildSlice t g ps) preB)=true:=E;rw[iO,iO]at E;have ao:∀o'∈((o,true)::preB).map Prod.fst,ur d (.buildSlice t g ps) o'=true:=fS
   have W:(nN m hs0 full d d2 ((o,true)::preB)).f v (kg d (kg d2 e)) a (λe a=>(p9 m hs0 full ⟨some d,.buildSlice t g ps,ty,pos,af,none⟩).f v e a λe a=>(p9 m hs0 full ⟨some d2,.convert t u (.tmp d),N,M,H,none⟩).f v e a λe a=>(lg m hs0 full post).f v e a k)=res:=by
    show(p9 m hs0 full o).f v (kg d (kg d2 (kg d (kg d2 e)))) a _=res
    rw[yn];exact h
   obtain⟨au,wd,ed,az,ay,d1,_,d3,_,d5⟩:=Mq s (y w0) D.del.del B W;obtain⟨el,l,vs,cs,n,z,ar,ax,_,_,_,_,_,al,ak⟩:=EB (d:=d) (ty:=ty) (pos:=pos) (af:=af) s hm d3 (xR s hm d1);obtain⟨_,_,_,_,k5⟩:=al t g ps rfl;subst k5
   obtain⟨r1,r2⟩:=ak env w (λx aw=>by
    cases x with
    |tmp q=>exact(d5 q (by grind [kN])).symm
    |_=>rfl)
   have Q:Ext w (w.alloc (.cells cs el)):=Fr.alloc _ _ _;refine xw r1 fx r2 ?_ (HH.ext hH Q)
   exact stB s hm Z B Q r2 y hk L J X Y ab ad R ag ae (preB:=(o,true)::preB) ao aa hu ((D.del (d:=d2)).QW (d:=d)) (B.aaT Q) w8 (λx av=>by
    cases x with
    |tmp q=>exact(kC (by grind [sh,Option.some.inj])).symm
    |_=>rfl) W
  ·refine gV (λI w' S=>?_) (oD s (y w0) (jL.nN s (y w0) (jL.op s (y w0) (jL.op s (y w0) (jL.XP s (y w0) (hk w0) post))) preB) L J (l:=[o]) hu ((D.del (d:=d2)).del (d:=d)) B h);obtain⟨C,G,ai,k1,k2,k3,k4⟩:=S;exact LQ s y hk L J hm Z X Y ab ad ap ag ae R an fS (hu.trans k2) k3 k4 k1
end
section
def St (w0:Fm) (N m:Nat) (ρ:Pl) (e:En) (f:Mem) (a:Act) (w:World):Prop:=∃d env,Up ρ d/\ER m d e env/\MR w0 d f w/\Fits N env a
def exM:Ex->Exit->Prop
 | .pn,.normal=>True
 | .ext n,.exit k=>n=k
 | .OF n,.goto k=>n=k
 | .ret,.ret=>True
 |_,_=>False
def Mz (w0:Fm) (N m:Nat) (ρ:Pl) (res:Rs):Exit->Act->World->Prop:=λex a w=>∃x e d,res= .mk x e d/\exM x ex/\St w0 N m ρ e d a w
theorem PJ (h:XH hs ops A f=some x):∃d op ty pos af pre post kG a,ops[f]? =some ⟨some d,op,ty,pos,af,none⟩/\Bw op=true/\mF op d=false/\sY hs ops A f post (List.range ops.size) pre=true/\sW ops.toList (pre.map Prod.fst)=some kG/\sW ops.toList post=some a/\uA d op (kG.zip (pre.map Prod.snd))=true/\x=⟨hs,kG.zip (pre.map Prod.snd),d,d,⟨some d,op,ty,pos,af,none⟩,a⟩:=by
 grind [XH,Bool.not_eq_true',Option.some.inj]
theorem O5 (h:XY hs ops A f=some x):∃d d2 op a t ty pos af u s m g pre post kG n,ops[f]? =some ⟨some d,op,ty,pos,af,none⟩/\bsT op=some t/\mF op d=false/\ops[g]? =some ⟨some d2,a,u,s,m,none⟩/\Qz d t a=true/\d≠d2/\mF op d2=false/\nK x.hs (some d2)=false/\xb x.hs ops A f g post (List.range ops.size) pre=true/\sW ops.toList (pre.map Prod.fst)=some kG/\sW ops.toList post=some n/\uA d op (kG.zip (pre.map Prod.snd))=true/\Pg d2 (kG.zip (pre.map Prod.snd))=true/\x=⟨x.hs,kG.zip (pre.map Prod.snd),d,d2,⟨some d,op,ty,pos,af,none⟩,⟨some d2,a,u,s,m,none⟩::n⟩:=by
 unfold XY at h;split at h
 ·rename_i d op ty pos af w;split at h
  ·rename_i t v y;split at h<;>grind [Bool.not_eq_true',Option.some.inj,Nat.beq_refl]
  ·cases h
 ·cases h
theorem B7 {ops:Array Oper} {x:PF}:∀{l:List Nat},Ef ops l≠ .GY x
 |[],h=>by cases h
 | q::l,h=>by
  have a:cN q (λk=>(match pe fD fC (NX ops k) k ops (Region.before ops)with
   |true=>Rk.held k
   |false=>Ef ops l:Rk))=Rk.GY x:=h
  rw[iJ]at a;split at a
  ·cases a
  ·exact B7 a
theorem Ca {ops:Array Oper} {x:PF}:∀{l:List Nat},Ef ops l≠ .free x
 |[],h=>by cases h
 | q::l,h=>by
  have a:cN q (λk=>(match pe fD fC (NX ops k) k ops (Region.before ops)with
   |true=>Rk.held k
   |false=>Ef ops l:Rk))=Rk.free x:=h
  rw[iJ]at a;split at a
  ·cases a
  ·exact Ca a
theorem qd {α β:Type} {f:α->Option β} {b:β}:∀{l:List α},l.findSome? f=some b->∃a,f a=some b
 |[],h=>by cases h
 |a::l,h=>by
  rw[List.findSome?_cons]at h;split at h
  ·grind
  ·exact qd h
theorem zip_fst {α β:Type}:∀{l:List α} {m:List β},l.length=m.length->(l.zip m).map Prod.fst=l
 |[],_,_=>rfl
 |_::_,[],h=>by cases h
 |a::l,b::m,h=>by rw[VG,jm,zip_fst (by simpa using h)]
theorem DX {α β:Type}:∀{l:List α} {m:List β},l.length=m.length->(l.zip m).map Prod.snd=m
 |[],[],_=>rfl
 |[],_::_,h=>by cases h
 |_::_,[],h=>by cases h
 |a::l,b::m,h=>by rw[VG,jm,DX (by simpa using h)]
theorem Qf {z y:Rk} {q:Bool} {g f:Option PF} (m:(match z with
 | .bad=>match q with
  | true=>match g with
   |some x=>Rk.GY x
   |none=>match f with
    |some x=>Rk.free x
    |none=> .bad
  |false=> .bad
 |x=>x)=y) (h1:∀x,y≠ .free x) (a:y≠ .bad) (d:∀x,y≠ .GY x):z=y:=by
 grind
section
variable {w0:Fm} {N m:Nat} {ih:Cl} {res:Rs} (hr:res≠ .no)
include hr
theorem LU {g:En->Mem->Rs} {r:Rs} (h:YP g r=res):∃x e d,r= .mk x e d/\((x= .pn/\g e d=res)∨(x≠ .pn/\res= .mk x e d)):=by
 cases r with
 |no=>exact absurd h.symm hr
 |mk x e d=>
  refine⟨x,e,d,rfl,?_⟩;cases x with
  |pn=>exact .inl ⟨rfl,h⟩
  |ext n=>exact .inr ⟨λa=>(by cases a),h.symm⟩
  |OF n=>exact .inr ⟨λa=>(by cases a),h.symm⟩
  |ret=>exact .inr ⟨λa=>(by cases a),h.symm⟩
  |val v=>exact absurd h.symm hr
omit hr in
theorem D7 (a:ER m ρ e env):ER m ρ ⟨e.vs,[],[],[]⟩ env:=λt x d=>by
 refine a t x ?_
 grind [Cq,kept,lp]
theorem TX (C:kr w0 ih) {id:Nat} {d:Mem} {a:Act} (g:qt N drawn ops= .text) (h:(tx m ops.toList ops.toList).f ih ⟨e.vs,[],[],[]⟩ d (λe d=> .mk .pn e d)=res) (J:St w0 N m ρ e d a w):(Code.region id ops drawn).wp prog (Mz w0 N m ρ res) a w:=by
 obtain⟨O,env,hu,I,x,B⟩:=J;have v:=D7 I
 have y:∀t w',(∃n,Fits N n t/\Ul w0 m O [] [] (λe d=> .mk .pn e d) res n w')->Mz w0 N m ρ res .normal t w':=λt w' K=>by
  obtain⟨n,h1,e',Q,M,D,_,_,E,F,G⟩:=K;exact⟨.pn,e',Q,D.symm,trivial,M,n,hu.trans E,F,G,h1⟩
 unfold qt at g;split at g
 ·cases g
 ·rename_i s;obtain⟨hs,s⟩:=mC s;split at g
  ·refine sU (fD:=fD) (fC:=fC) (hs:=[]) (H:=gp.gL) trivial y ?_;have u:=E9 hr C (full:=ops.toList) v x h;have:=pq (N:=N) (full:=ops) hs s ops.toList 0 env a w ir trivial B (by simpa using u);simpa[Hh]using this
  ·split at g
   ·rename_i L;refine u7 (fD:=fD) (fC:=fC) (hs:=[]) (H:=gp.gL) mixed trivial L y ?_;have u:=E9 hr C (full:=ops.toList) v (x.ext (Fr.drew _ w)) h;have:=pq (N:=N) (full:=ops) hs s ops.toList 0 env a w.drew ir trivial B (by simpa using u);simpa[Hh]using this
   grind [absurd,B0]
theorem PE (u:kr w0 ih) {id:Nat} {v:Mem} {a:Act} {k:Nat} (g:qt N drawn l.toArray= .held k) (h:(lg m (NX l.toArray k) l (l.take k)).f ih ⟨e.vs,[],[],[]⟩ v (J9 m ih l (l.drop k) v)=res) (Q:St w0 N m ρ e v a w):(Code.region id l.toArray drawn).wp prog (Mz w0 N m ρ res) a w:=by
 obtain⟨s,env,hu,M,O,S⟩:=Q;have y:=D7 M;have n:=O.ext (Fr.drew _ w);obtain⟨t,ae,C,_,_,B⟩:=Ix hr u y n h;unfold qt at g;split at g
 ·cases g
 ·rename_i R;split at g
  ·cases g
  ·split at g
   ·cases g
   ·have T:=Gp (Qf g (λ_ d=>by cases d) (λd=>by cases d) (λ_ d=>by cases d));refine wp_cut (K:=Ul w0 m s t.hs t.ms EH res) k (NX l.toArray k) (HH s t.hs) R T (yj n (Up.refl s) jQ B) S (λY x w' h1 d=>?_) ?_
    ·obtain⟨e',V,E,H,_,_,I,J,L⟩:=d;exact⟨.pn,e',V,H.symm,trivial,E,x,hu.trans I,J,L,h1⟩
    ·refine gV (λx w' d=>?_) (Xv hr u C B n (full:=l) (l2:=l.drop k) (l:=l.take k) (Up.refl s) y n h);obtain⟨Z,ad,E,k1,k2,k3,k4⟩:=d;have D:=E9 hr u (full:=l) k3 k4 k1;obtain⟨_,_,F,W,_,q1,q2,q3,_⟩:=za D;have q1:Rs.mk .pn F W=res:=q1;rw[C]at q1;injection q1 with _ q4 _
     refine xT (λaa ab d=>?_) D;obtain⟨G,X,U,r1,r2,r3,r4,r5,r6⟩:=d;exact⟨G,X,U,r1,by rw[r2,←q2,q4],by rw[r3,←q3,q4],k2.trans r4,r5,r6⟩
theorem Oq (C:∀F,kr F ih) {id:Nat} {u:Mem} {a:Act} (g:qt N drawn l.toArray= .free x) (h:(nN m x.hs l x.d x.d2 x.pre).f ih ⟨e.vs,[],[],[]⟩ u (λe' n=>(p9 m x.hs l x.f).f ih e' n λe' n=>(lg m x.hs l x.post).f ih e' n (J9 m ih l [] u))=res) (aa:St w0 N m ρ e u a w):(Code.region id l.toArray drawn).wp prog (Mz w0 N m ρ res) a w:=by
 obtain⟨D,env,hu,X,Y,ae⟩:=aa;have E:=D7 X;have B:=Y.ext (Fr.drew _ w);obtain⟨_,_,ak,ar,ao,J,_,a3,a4,_⟩:=Mq hr (C w0) E B h;obtain⟨_,_,al,au,ap,L,_,M,O,_⟩:=RO (l:=[x.f]) hr (C w0) a3 a4 J;obtain⟨_,_,t,I,aq,c1,_,c3,c4,_⟩:=RO hr (C w0) M O L;obtain⟨c5,G⟩:=qf hr (show IK u t.ms t.hs ((tx m l []).f ih t I EH)=res from c1);have am:res= .mk .pn t I:=c5.symm;unfold qt at g;split at g
 ·cases g
 ·rename_i ad;split at g
  ·cases g
  ·split at g
   ·cases g
   ·split at g
    ·split at g
     ·rename_i ab;split at g
      ·cases g
      split at g
      ·rename_i x' ah;injection g with g
       subst g;obtain⟨f,ag⟩:=qd ah;obtain⟨d,op,ty,pos,af,pre,post,kG,an,h1,Q,R,S,T,U,V,W⟩:=PJ ag;subst W
       have hlen:kG.length=(pre.map Prod.snd).length:=by
        have:=congrArg List.length (mG T);simpa using this.symm
       refine Lh (K:=λy w'=>∃e' n s,res= .mk .pn e' n/\Up D s/\ER m s e' y/\MR w0 s n w') (NX l.toArray l.toArray.size) (HH D t.hs) ad ab (yj B (Up.refl D) jQ G) ae (λaj y w' q1 ai=>?_) (λZ=>?_)
       ·obtain⟨e',n,s,g1,g2,g3,g4⟩:=ai;exact⟨.pn,e',n,g1,trivial,s,y,hu.trans g2,g3,g4,q1⟩
       ·refine yq Z h1 (mG U) S (kG:=kG.zip (pre.map Prod.snd)) (DX hlen).symm (by grind [zip_fst,mG]) ?_;refine P6 hr C (by grind [jL.fin]) G B Q R (λy w' v H s g1 g2 g3 g4=>?_) V (Up.refl D) E B h;obtain⟨g5,_⟩:=qf hr (show IK u v.ms v.hs ((tx m l []).f ih v H EH)=res from g1);exact⟨v,H,s,g5.symm,g2,g3,g4⟩
      ·cases g
     ·cases g
    grind [absurd,Ca]
theorem RA (G:∀F,kr F ih) {id:Nat} {B:Mem} {a:Act} (n:qt N drawn l.toArray= .GY x) (h:(nN m x.hs l x.d x.d2 x.pre).f ih ⟨e.vs,[],[],[]⟩ B (λe' s=>(p9 m x.hs l x.f).f ih e' s λe' s=>(lg m x.hs l x.post).f ih e' s (J9 m ih l [] B))=res) (al:St w0 N m ρ e B a w):(Code.region id l.toArray drawn).wp prog (Mz w0 N m ρ res) a w:=by
 obtain⟨H,env,hu,ai,aj,ao⟩:=al;have I:=D7 ai;have E:=aj.ext (Fr.drew _ w);obtain⟨_,_,aD,aS,aP,O,_,a3,a4,_⟩:=Mq hr (G w0) I E h;obtain⟨_,_,aE,aT,aQ,Q,_,R,S,_⟩:=RO (l:=[x.f]) hr (G w0) a3 a4 O;obtain⟨_,_,y,M,aR,c1,_,c3,c4,_⟩:=RO hr (G w0) R S Q;obtain⟨c5,J⟩:=qf hr (show IK B y.ms y.hs ((tx m l []).f ih y M EH)=res from c1);have aF:res= .mk .pn y M:=c5.symm;unfold qt at n;split at n
 ·cases n
 ·rename_i an;split at n
  ·cases n
  ·split at n
   ·cases n
   ·split at n
    ·split at n
     ·rename_i am;split at n
      ·rename_i x' aq;injection n with n
       subst n;obtain⟨f,ap⟩:=qd aq;obtain⟨d,d2,op,aH,t,ty,pos,af,aK,aJ,aC,g,pre,post,kG,aI,h1,Y,Z,av,aw,ax,ay,az,aa,ab,ad,ae,ag,ah⟩:=O5 ap;obtain⟨aG,ps,rfl,hm⟩:=UC Y;obtain⟨u,el,rfl,aA,z2,z3,z4⟩:=PL aw;obtain⟨au,aO,aL,aM,xf,aN⟩:=x';injection ah with _ T U V W X
       subst T;subst U;subst V;subst W;subst X
       have hlen:kG.length=(pre.map Prod.snd).length:=by
        have:=congrArg List.length (mG ab);simpa using this.symm
       refine Lh (K:=λD w'=>∃e' s v,res= .mk .pn e' s/\Up H v/\ER m v e' D/\MR w0 v s w') au (HH H y.hs) an am (yj E (Up.refl H) jQ J) ao (λaB D w' q1 ar=>?_) (λak=>?_)
       ·obtain⟨e',s,v,g1,g2,g3,g4⟩:=ar;exact⟨.pn,e',s,g1,trivial,v,D,hu.trans g2,g3,g4,q1⟩
       ·refine HW ak h1 av (mG ad) aa (kG:=kG.zip (pre.map Prod.snd)) (DX hlen).symm (by grind [zip_fst,mG]) ?_;refine LQ hr G (by grind [jL.fin]) J E hm z3 aA z2 z4 az Z ay ax (λD w' C L v g1 g2 g3 g4=>?_) ae (CO ag) (Up.refl H) I E h;obtain⟨g5,_⟩:=qf hr (show IK B C.ms C.hs ((tx m l []).f ih C L EH)=res from g1);exact⟨C,L,v,g5.symm,g2,g3,g4⟩
      grind
     ·cases n
    grind [absurd,B7]
end
theorem Ce {x:Ex} {ex:Exit} (h:exM x ex) (d:x≠ .pn) (Q:Exit->Act->World->Prop) (K:Act->World->Prop) (a:Act) (w:World) (hq:Q ex a w):Exit.then K Q ex a w:=by
 cases ex with
 |normal=>cases x<;>first|exact absurd rfl d|cases h
 |_=>exact hq
theorem Ly {w0:Fm} {N m:Nat} {g:Cl} (R:∀F,kr F g):∀(d:Nat) (c:Code) (n:Nat) (e:En) (s:Mem) (res:Rs) (ρ:Pl) (a:Act) (w:World),res≠ .no->(mv N m d c).f g n e s=res->St w0 N m ρ e s a w->c.wp prog (Mz w0 N m ρ res) a w
 |0,c,n,e,s,res,ρ,a,w,E,h,G=>absurd h.symm E
 | d +1,c,n,e,s,res,ρ,a,w,E,h,G=>by
  have O:=Ly (w0:=w0) (N:=N) (m:=m) R d;cases c with
  |skip=>exact wp_skip ⟨.pn,e,s,h.symm,trivial,G⟩
  |label l=>exact wp_label ⟨.pn,e,s,h.symm,trivial,G⟩
  |exit id=>exact wp_exit ⟨.ext id,e,s,h.symm,rfl,G⟩
  |goto l=>exact wp_goto ⟨.OF l,e,s,h.symm,rfl,G⟩
  |ret=>exact wp_ret ⟨.ret,e,s,h.symm,trivial,G⟩
  | region id ops drawn=>
   have B:(match qt N drawn ops with
    | .text=>(⟨λg _ e s=>(tx m ops.toList ops.toList).f g ⟨e.vs,[],[],[]⟩ s λe s=> .mk .pn e s⟩:Wc)
    | .held k=>⟨λg _ e s=>(lg m (NX ops k) ops.toList (ops.toList.take k)).f g ⟨e.vs,[],[],[]⟩ s λe' I=>IK s e'.ms e'.hs ((tx m ops.toList (ops.toList.drop k)).f g e' I λe s=> .mk .pn e s)⟩
    | .free x=>⟨λg _ e s=>(nN m x.hs ops.toList x.d x.d2 x.pre).f g ⟨e.vs,[],[],[]⟩ s λe' I=>(p9 m x.hs ops.toList x.f).f g e' I λe' I=>(lg m x.hs ops.toList x.post).f g e' I λe' I=>IK s e'.ms e'.hs (.mk .pn e' I)⟩
    | .GY x=>⟨λg _ e s=>(nN m x.hs ops.toList x.d x.d2 x.pre).f g ⟨e.vs,[],[],[]⟩ s λe' I=>(p9 m x.hs ops.toList x.f).f g e' I λe' I=>(lg m x.hs ops.toList x.post).f g e' I λe' I=>IK s e'.ms e'.hs (.mk .pn e' I)⟩
    | .bad=>noC).f g n e s=res:=h
   split at B
   ·rename_i M;exact TX E (R w0) M B G
   ·rename_i M;exact PE (l:=ops.toList) E (R w0) M B G
   ·rename_i M;exact Oq (l:=ops.toList) E R M B G
   ·rename_i M;exact RA (l:=ops.toList) E R M B G
   ·exact absurd B.symm E
  | seq x y=>
   have B:YP ((mv N m d y).f g n) ((mv N m d x).f g n e s)=res:=h;obtain⟨al,K,L,h1,C⟩:=LU E B;refine wp_seq (wp_mono (O x n e s _ ρ a w (by rw[h1];exact λH=>by cases H) fx G) ?_);rintro ex Q w' ⟨D,t,u,k1,k2,k3⟩;rw[h1]at k1;injection k1 with q1 q2 q3
   subst q1;subst q2;subst q3;rcases C with⟨rfl,C⟩|⟨Z,C⟩
   ·cases ex with
    |normal=>exact O y n K L res ρ Q w' E C k3
    |_=>cases k2
   ·exact Ce k2 Z _ _ _ _ ⟨al,K,L,C,k2,k3⟩
  |cond q x y=>
   have B:(iz m q).f e (λq=>U9 q ((mv N m d x).f g n e s) ((mv N m d y).f g n e s))=res:=h;have ag:=G;obtain⟨ar,env,hu,af,an,U⟩:=ag;obtain⟨b,v,h1,C,J⟩:=gk E af B;rcases uy E J with⟨rfl,ae⟩|⟨rfl,ae⟩
   ·have C:v= .bool true:=C;subst C;exact wp_cond_true (U.eval h1) fS
   ·have C:v= .bool false:=C;subst C;exact wp_cond_false (U.eval h1) fS
  | block id b=>
   have B:blK id ((mv N m d b).f g n e s)=res:=h;generalize ak:(mv N m d b).f g n e s=r0 at B;have Y:r0≠ .no:=λH=>by rw[H]at B;exact E B.symm
   refine wp_block (wp_mono (O b n e s r0 ρ a w Y ak G) ?_);rintro ex Q w' ⟨D,t,u,k1,k2,k3⟩;subst k1;cases D with
   |pn=>
    cases ex with
    |normal=>exact⟨.pn,t,u,B.symm,trivial,k3⟩
    |_=>cases k2
   | ext j=>
    cases ex with
    |exit k=>
     have k2:j=k:=k2;subst k2;have T:yQ (Nat.beq j id) (.mk .pn t u) (.mk (.ext j) t u)=res:=B;rw[me]at T;show(if j=id then _ else _)
     split at T
     ·rename_i ah;rw[if_pos mu];exact⟨.pn,t,u,T.symm,trivial,k3⟩
     ·rename_i ah;rw[if_neg mu];exact⟨.ext j,t,u,T.symm,rfl,k3⟩
    |_=>cases k2
   |OF j=>
    cases ex with
    |goto k=>exact⟨.OF j,t,u,B.symm,k2,k3⟩
    |_=>cases k2
   |ret=>
    cases ex with
    |ret=>exact⟨.ret,t,u,B.symm,trivial,k3⟩
    |_=>cases k2
   |val v=>cases k2
  | loop b=>
   have B:lpK ((mv N m d b).f g n) n e s=res:=h;refine wp_loop_ghost (λk a w=>∃e s,lpK ((mv N m d b).f g n) k e s=res/\St w0 N m ρ e s a w) n ⟨e,s,B,G⟩ ?_;rintro k W aa ⟨K,L,h1,X⟩;cases k with
   |zero=>exact absurd h1.symm E
   | succ k=>
    have ad:YP (lpK ((mv N m d b).f g n) k) ((mv N m d b).f g n K L)=res:=h1;obtain⟨D,t,u,C,J⟩:=LU E ad;refine wp_mono (O b n K L _ ρ W aa (by rw[C];exact λH=>by cases H) fx X) ?_;rintro ex Q w' ⟨aq,am,au,k1,k2,k3⟩;rw[C]at k1;injection k1 with q1 q2 q3
    subst q1;subst q2;subst q3;rcases J with⟨rfl,J⟩|⟨Z,J⟩
    ·cases ex with
     |normal=>exact⟨k,yD k,t,u,J,k3⟩
     |_=>cases k2
    ·exact Ce k2 Z _ _ _ _ ⟨D,t,u,J,k2,k3⟩
  | scope b=>
   have B:Jc (λl=>(Oh (mv N m d) b l).f g n) n ((mv N m d b).f g n e s)=res:=h
   have fin:∀(k:Nat) (D:Ex) (t:En) (u:Mem),Jc (λl=>(Oh (mv N m d) b l).f g n) k (.mk D t u)=res->(∃l V,D= .OF l/\k=V+1/\Jc (λl=>(Oh (mv N m d) b l).f g n) V ((Oh (mv N m d) b l).f g n t u)=res)∨(res= .mk D t u/\∀l,D≠ .OF l):=λk D t u H=>by
    cases k with
    |zero=>exact absurd H.symm E
    |succ k=>
     cases D with
     |OF l=>exact .inl ⟨l,k,rfl,rfl,H⟩
     |pn=>exact .inr ⟨H.symm,λl S=>by cases S⟩
     |ext j=>exact .inr ⟨H.symm,λl S=>by cases S⟩
     |ret=>exact .inr ⟨H.symm,λl S=>by cases S⟩
     |val v=>exact absurd H.symm E
   have ao:∀k,Jc (λl=>(Oh (mv N m d) b l).f g n) k .no≠res:=λk H=>by
    cases k<;>exact E H.symm
   have ai:∀l k t u,Jc (λl=>(Oh (mv N m d) b l).f g n) k ((Oh (mv N m d) b l).f g n t u)=res->∃rest,findLabel b l=some rest/\(Oh (mv N m d) b l).f g n t u=(mv N m d rest).f g n t u/\(mv N m d rest).f g n t u≠ .no:=by grind [findLabel,Oh,mv,absurd]
   refine qx (λl k a w=>∃t u,Jc (λl=>(Oh (mv N m d) b l).f g n) k ((Oh (mv N m d) b l).f g n t u)=res/\St w0 N m ρ t u a w) ?_ ?_ ?_
   ·grind
   ·have Y:(mv N m d b).f g n e s≠ .no:=fS;refine wp_mono (O b n e s _ ρ a w Y fx G) ?_;rintro ex Q w' ⟨D,t,u,k1,k2,k3⟩;rw[k1]at B;rcases fin n D t u B with⟨l,V,rfl,_,C⟩|⟨C,J⟩
    ·cases ex with
     |goto j=>
      have k2:l=j:=k2
      grind
     |_=>cases k2
    ·cases ex with
     |goto j=>cases D<;>first|grind|cases k2
     |_=>exact⟨D,t,u,C,k2,k3⟩
   ·rintro k l rest W aa U ⟨K,L,h1,X⟩;obtain⟨ap,ab,he,aj⟩:=ai l k K L h1;rw[U]at ab;obtain rfl:=jk ab;rw[he]at h1;refine wp_mono (O rest n K L _ ρ W aa aj fx X) ?_;rintro ex Q w' ⟨D,t,u,k1,k2,k3⟩;rw[k1]at h1;rcases fin k D t u h1 with⟨l',V,rfl,hk,C⟩|⟨C,J⟩
    ·cases ex with
     |goto j=>
      have k2:l'=j:=k2
      grind
     |_=>cases k2
    ·cases ex with
     |goto j=>cases D<;>first|grind|cases k2
     |_=>exact⟨D,t,u,C,k2,k3⟩
  |_=>exact absurd h.symm E
end
section
theorem ES:∀(l:List Value) (n t:Nat) (v:Value),n<=t->l[t-n]? =some v->look (rl n l) t=some v
 |[],n,t,v,_,h=>by cases h
 | x::l,n,t,v,a,h=>by
  show look ((n,x)::rl (n+1) l) t=some v
  rw[kf]
  by_cases ht:n=t
  ·grind
  ·rw[if_neg ht];refine ES l (n+1) t v fy ?_
   grind
theorem A1.get {l:List AV} (h:A1 ρ l vs):∀(i:Nat) x,l[i]? =some x->∃v,vs[i]? =some v/\AR ρ x v:=by
 induction h<;>grind
theorem A1.len {l:List AV} (h:A1 ρ l vs):vs.length=l.length:=by
 induction h<;>grind
noncomputable def paL (m:Nat) (l:List AV) (k:Nat) (c:mB->Rs):Rs:=List.rec (motive:=λ_=>Nat->(mB->Rs)->Rs) (λ_ c=>c []) (λx _ a k c=>fN (Nat.add k 1) λd=>a d λr=>yQ (kept m k) (c ((k,x)::r)) (c r)) l k c
theorem Ko {m:Nat} {res:Rs}:∀{l:List AV} {k:Nat} {c:mB->Rs},paL m l k c=res->∃env,c env=res/\∀t a,lp t env=some a->k<=t/\l[t-k]? =some a
 |[],k,c,h=>⟨[],h,λt a f=>by cases f⟩
 |x::l,k,c,h=>by
  have d:fN (Nat.add k 1) (λg=>paL m l g λr=>yQ (kept m k) (c ((k,x)::r)) (c r))=res:=h;rw[gP]at d;obtain⟨env,h1,n⟩:=Ko d
  grind [me,lp,Option.some.inj]
theorem Xg {p:Addr} (ht:one t=true) (hc:w.cell? p=some v):(loadVar t p).run prog w= .ok v w:=by
 simp_all [loadVar,load,Sem.run,Di]
section
variable {w0:Fm} {m:Nat} {ih:Cl} {e:En} {σ:Mem} {res:Rs} {ρ:Pl} {env:Env} {w:World} (hr:res≠ .no)
include hr
theorem Te {a:Act} (K:ER m ρ e env) (O:MR w0 ρ σ w) (Q:Fits N env a) {r:ResultVar} {k:AV->Rs} (h:(reW m r).f e σ k=res):∃x v,AR ρ x v/\k x=res/\((match r with
  | .tmp t=>pure (a.tmps.getD t undef)
  | .cell p t=>do loadVar t (←asAddr (a.tmps.getD p undef)):Sem Value)).run prog w= .ok v w:=by
 cases r with
 |tmp t=>
  obtain⟨x,h1,d⟩:=pZ hr (show(Qq m t).f e k=res from h);obtain⟨v,s,C⟩:=K t x h1;refine⟨x,v,C,d,?_⟩;have:=Q.2.2 t v s
  simp_all
 | cell p t=>
  have R:∀id o,∀B,look env p=some B->SR ρ (.p id o) B->∃q,ρ[id]? =some q/\(asAddr (a.tmps.getD p undef)).run prog w= .ok ⟨q.b,o,none⟩ w:=λid o B h1 d=>by
   obtain⟨q,s,rfl⟩:=d;refine⟨q,s,?_⟩;have:=Q.2.2 p _ h1;simp[pf,this,asAddr]
  unfold reW at h;simp only at h;split at h
  ·rename_i U;obtain⟨x,h1,d⟩:=pZ hr h;obtain⟨B,s,C⟩:=K p x h1;obtain⟨id,o,e0,H⟩:=lz hr d;obtain⟨S,L,I⟩:=oU hr H;obtain⟨y,M,J⟩:=mj hr I;subst e0;obtain⟨q,E,F⟩:=R id o B s C;obtain⟨v,D,G,_⟩:=O.cell (j9.2 ⟨S,L,M⟩) E;refine⟨.v y,v,G.2,J,?_⟩;show((asAddr (a.tmps.getD p undef))>>=λq=>loadVar t q).run prog w=_
   rw[sD,F,sM];exact Xg U D
  ·split at h
   ·rename_i n T;rw[iJ]at h;obtain⟨x,h1,d⟩:=pZ hr h;obtain⟨B,s,C⟩:=K p x h1;obtain⟨id,o,e0,H⟩:=lz hr d;obtain⟨S,l,L,I,M,J⟩:=l6 hr H;subst e0;obtain⟨q,E,F⟩:=R id o B s C;obtain⟨vs,D,G⟩:=O.cells E (l:=l) (o:=o) fS;refine⟨.g l,.agg vs.toArray,⟨vs,D,rfl⟩,J,?_⟩;have:=IN (w:=w) (t:=t) (b:=q.b) (o:=o) (cs:=vs) (by rw[D.len,I];exact T) (λj u hu=>(G j u hu).1);show((asAddr (a.tmps.getD p undef))>>=λq=>loadVar t q).run prog w=_
    rw[sD,F,sM];exact this
   grind
def XB (tmps:Array Value):ResultVar->Sem Value:=λ
 | .tmp t=>pure (tmps.getD t undef)
 | .cell p t=>do loadVar t (←asAddr (tmps.getD p undef))
theorem HL {N:Nat} {a:Act} (d:ER m ρ e env) (g:MR w0 ρ σ w) (n:Fits N env a):∀{l:List ResultVar} {k:List AV->Rs},(TU m l).f e σ k=res->∃al vs,A1 ρ al vs/\k al=res/\(l.mapM (XB a.tmps)).run prog w= .ok vs w
 |[],k,h=>⟨[],[],.nil,h,by simp⟩
 | r::l,k,h=>by
  obtain⟨x,v,h1,s,t⟩:=Te hr d g n (show(reW m r).f e σ (λv=>(TU m l).f e σ λl=>k (v::l))=res from h);obtain⟨al,vs,u,y,C⟩:=HL d g n s;refine⟨x::al,v::vs,.cons h1 u,y,?_⟩
  have B:(XB a.tmps r).run prog w= .ok v w:=by
   cases r<;>exact t
  simp_all
theorem DC:∀{l:List AV} {vs:List Value} {k:List TV->Rs},tuK l k=res->A1 ρ l vs->∃a,Tj ρ a vs/\k a=res
 |[],vs,k,h,n=>by
  cases n;exact⟨[],.nil,h⟩
 | x::l,vs,k,h,n=>by
  cases n with
  |cons h1 s=>
   rcases vB hr (show TM x (λx=>tuK l λl=>k (.v x::l)) (λg=>tuK l λl=>k (.g g::l))=res from h)with⟨y,rfl,d⟩|⟨g,rfl,d⟩
   ·obtain⟨a,f,m⟩:=DC d s;exact⟨.v y::a,.cons h1 f,m⟩
   ·obtain⟨a,f,m⟩:=DC d s;exact⟨.g g::a,.cons h1 f,m⟩
theorem Ti {l:List AV} (h:toK e σ l=res) (n:A1 ρ l vs):∃v,res= .mk (.val v) e σ/\AR ρ v (if h:vs.toArray.size=1 then vs.toArray[0]else .tuple vs.toArray):=by
 cases n with
 |nil=>exact⟨.t [],h.symm,[],.nil,rfl⟩
 | cons h1 a=>
  rename_i x v l vs;cases a with
  |nil=>exact⟨x,h.symm,h1⟩
  |cons d f=>
   rename_i y u l vs;obtain⟨s,g,m⟩:=DC hr (show tuK (x::y::l) (λl=> .mk (.val (.t l)) e σ)=res from h) (.cons h1 (.cons d f));exact⟨.t s,m.symm,_,g,by simp⟩
theorem S6 {ws:Wrs} {r:Rs} (h:reK ws r=res):∃x e σ,r= .mk x e σ/\(x= .pn∨x= .ret)/\ws.f e σ (λl=>toK e σ l)=res:=by
 cases r with
 |no=>exact absurd h.symm hr
 |mk x e σ=>
  cases x with
  |pn=>exact⟨_,_,_,rfl,.inl rfl,h⟩
  |ret=>exact⟨_,_,_,rfl,.inr rfl,h⟩
  |_=>exact absurd h.symm hr
end
theorem zo:∀{l:List (Nat×Fe)} {f:Nat} {x:Fe},Tu l f=some x->(f,x)∈l
 |[],f,x,h=>by cases h
 | y::l,f,x,h=>by
  have a:(match Nat.beq y.1 f with
   |true=>some y.2
   |false=>Tu l f)=some x:=h
  split at a
  ·grind [Option.some.inj,Nat.eq_of_beq_eq_true,List.mem_cons_self]
  ·exact qe _ (zo a)
def sN (f:Nat) (o:List AV->Mem->Rs):Prop:=∀(w0:Fm) al d v e' g (ρ:Pl) vs w,o al d= .mk (.val v) e' g->A1 ρ al vs->MR w0 ρ d w->fL prog f vs.toArray w (λval w'=>∃a,Up ρ a/\AR a v val/\MR w0 a g w')
def hU (f:Nat):Fe->Prop
 | .code fn _=>prog.funcs[f]? =some fn
 | .pU o=>sN f o
def wV (a:List (Nat×Fe)):Prop:=∀x∈a,hU x.1 x.2
theorem wm {u:List (Nat×Fe)} (ht:wV u):∀n (w0:Fm),kr w0 (run u n)
 |0,w0=>λf al B v e' g ρ vs w h _ _=>by cases h
 | n +1,w0=>λf al B v e' g ρ vs w h I H=>by
  have K:=wm ht n;have C:(Rs.mk (.val v) e' g)≠ .no:=λW=>by cases W
  have d:(fnW (Tu u f)).f (run u n) al B= .mk (.val v) e' g:=h;unfold fnW at d;split at d
  ·rename_i fn m D;have U:prog.funcs[f]? =some fn:=ht _ (zo D);split at d
   ·rename_i c hc;obtain⟨hlen,h1⟩:=fO d C;have hlen:=iY hlen;have L:paL m al 0 (λl=>reK (TU m fn.results.toList) ((mv fn.ntmps m 1000 c).f (run u n) lF ⟨l,[],[],[]⟩ B))= .mk (.val v) e' g:=h1;obtain⟨l,M,O⟩:=Ko L;obtain⟨x,G,ah,Q,R,S⟩:=S6 C M
    have T:ER m ρ ⟨l,[],[],[]⟩ (rl 0 vs):=λt a E=>by
     unfold Cq at E;cases hk:kept m t with
     |true=>
      rw[hk]at E;obtain⟨_,g2⟩:=O t a E;obtain⟨ae,g3,g4⟩:=I.get _ a g2
      grind [ES]
     |false=>
      grind [lp]
    have V:Fits fn.ntmps (rl 0 vs) {tmps:=vs.toArray++Array.replicate (fn.ntmps-vs.toArray.size) undef,defers:=[]}:=
     BO (by grind [A1.len]) λt v X=>by simpa using(rF vs 0 t v X).2
    refine calls_of_wp U hc (wp_mono (Ly (N:=fn.ntmps) (m:=m) K 1000 c lF ⟨l,[],[],[]⟩ B _ ρ _ w fS fx ⟨ρ,_,Up.refl ρ,T,H,V⟩) ?_);rintro ex s w' ⟨ag,ab,ai,k1,k2,y,ad,k3,k4,k5,k6⟩;rw[Q]at k1;injection k1 with q1 q2 q3
    subst q1;subst q2;subst q3;obtain⟨aa,F,r1,r2,r3⟩:=HL C k4 k5 k6 S;obtain⟨af,r4,r5⟩:=Ti C r2 r1;injection r4 with q1 q2 q3
    injection q1 with q1
    subst q1;subst q2;subst q3
    have Z:(results fn s.tmps).run prog w'= .ok (if h:F.toArray.size=1 then F.toArray[0]else .tuple F.toArray) w':=by
     have G:results fn s.tmps=(do
      let vs←fn.results.mapM (XB s.tmps)
      pure (if h:vs.size=1 then vs[0]else .tuple vs)):=rfl
     rw[G,Array.mapM_eq_mapM_toList];simp[r3]
    have fin:s.defers=[]/\∃J,(results fn s.tmps).run prog w'= .ok J w'/\R7 (λval w'=>∃y,Up ρ y/\AR y v val/\MR w0 y g w') (.returned J) w':=⟨k6.1,_,Z,_,rfl,y,k3,r5,k5⟩;rcases R with rfl|rfl
    ·cases ex with
     |normal=>exact fin
     |_=>cases k2
    ·cases ex with
     |ret=>exact fin
     |_=>cases k2
   ·cases d
  ·rename_i o D;have Y:sN f o:=ht _ (zo D);exact Y w0 al B v e' g ρ vs w d I H
  ·cases d
theorem Q2 {a:List (Nat×Fe)} (ht:wV a) (h:ok (run a n f [] ⟨0,.nil,[]⟩)=true) (w:World) (d:BB hG w):fL prog f #[] w (λv w'=>v= .bool true/\Ext w w'):=by
 generalize u:run a n f [] ⟨0,.nil,[]⟩=r at h;cases r with
 |no=>cases h
 | mk x e y=>
  cases x with
  | val v=>
   cases v with
   | v v=>
    cases v with
    | b q=>
     have h:q=true:=h;subst h
     have s:MR ⟨hG,w,d⟩ [] ⟨0,.nil,[]⟩ w:={
      len:=rfl
      gH:=by grind [jy,kA]
      old:=Fr.refl _ _
      xj:=fS
      pre:=by grind [jy,kA]
      apart:=fS
      yI:=TE.nil _ _ _}
     have:=wm ht n ⟨hG,w,d⟩ f [] ⟨0,.nil,[]⟩ _ e y [] [] w u .nil s;refine fL.mono this λv w' t=>?_
     obtain⟨B,_,g,m⟩:=t;exact⟨g,m.old⟩
    |_=>cases h
   |_=>cases h
  |_=>cases h
end
end Go.Proofs.YtecaahegomdbbaaGreatDoor.gp.Rn
namespace Go.Proofs.YtecaahegomdbbaaGreatDoor.gp
open Go.Proofs.Tryz
open Go.RowKit
variable {zs:List Int}
section
def lQ:List Int->Int->Int->Bool
 |[],a,sum=>if a=1 then decide (sum=2048)else decide (a=0)||decide (sum=4096)
 |n::r,a,sum=>if n<0∨12<n then false else if 0<n then lQ r (a+1) (sum+p2 (12-n))else lQ r a sum
def pv (zs:List Int):Bool:=decide (zs.length<=400)&&lQ zs 0 0
structure ac0 (zs:List Int) (w0:World) (x:Nat×Int×Int) (w:World):Prop where
 w:w=w0
 len:zs.length<=400
 k:x.1<=zs.length
 c0:0<=x.2.1
 c1:x.2.1<=x.1
 s0:0<=x.2.2
 s1:x.2.2<=4096*x.1
 go:lQ (zs.drop x.1) x.2.1 x.2.2=lQ zs 0 0
theorem tM (c s:Int):lQ [] c s=if c=1 then decide (s=2048)else decide (c=0)||decide (s=4096):=rfl
theorem oM (n:Int) (r:List Int) (c s:Int):lQ (n::r) c s=if n<0∨12<n then false else if 0<n then lQ r (c+1) (s+p2 (12-n))else lQ r c s:=rfl
theorem CL (w:World) (v:Value) (zs:List Int) (y:qZ w v zs):fL prog 401 #[v] w λr w'=>r= .bool (pv zs)/\w=w':=by
 obtain⟨A,c,rfl,hc,s,g⟩:=y;unfold maxLen at s;refine gr func401 fx fF ?_;refine wk ?_
 refine h9 (α:=Nat×Int×Int) 0 fx (λx=>[(0,.slice A zs.length c),(3,.int .i64 (x.1:Int)),(4,.int .i64 x.2.1),(5,.int .i64 x.2.2)])
  (ac0 zs w) (λx=>zs.length-x.1) ?_ ?_
 ·rintro⟨k,d,sm⟩ w' ⟨rfl,f,hk,m,n,hs0,u,a⟩;dsimp only at f hk m n hs0 u a⊢
  by_cases fW:k<zs.length
  ·obtain⟨b,o,z,rfl,B,F,C,t⟩:=qj g fW;rw[t,oM]at a
   by_cases h0:z<0∨12<z
   ·rw[if_pos h0]at a
    repeat' (first|refine IW ?_|refine TD rfl rfl rfl (λhc=>?_) (λhc=>?_)|fail)
    all_goals first|omega|exact fB rfl rfl (by grind [pv])
   ·rw[if_neg h0]at a
    by_cases h1:0<z
    ·rw[if_pos h1]at a;have D:=WO (12-z);have E:p2 (12-z)<=2^12:=YO fy;refine wk ?_;refine Jt (r:=p2 (12-z)) fx fx fy (by grind [IntKind.bits]) (by grind [IntWalk.i64_in,p2]) ?_;refine wk ?_;exact gX fx ⟨_,by dsimp only;omega,rfl,(k+1,d+1,sm+p2 (12-z)),sub ⟨rfl,rfl,rfl,rfl⟩,⟨rfl,f,by dsimp only;omega,by dsimp only;omega,by dsimp only;omega,by dsimp only;omega,by dsimp only;omega,a⟩,rfl⟩
    ·rw[if_neg h1]at a;refine wk ?_;exact gX fx ⟨_,by dsimp only;omega,rfl,(k+1,d,sm),sub ⟨rfl,rfl,rfl,rfl⟩,⟨rfl,f,by dsimp only;omega,by dsimp only;omega,by dsimp only;omega,by dsimp only;omega,by dsimp only;omega,a⟩,rfl⟩
  ·rw[yE fy,tM]at a;have hm:pv zs=if d=1 then decide (sm=2048)else decide (d=0)||decide (sm=4096):=by rw[a];simp[pv,f]
   repeat' (first|refine IW ?_|refine TD rfl rfl rfl (λhc=>?_) (λhc=>?_)|fail)
   all_goals exact fB rfl rfl fS
 ·intro H
  repeat' (first|refine IW ?_|refine TD rfl rfl rfl (λhc=>?_) (λhc=>?_)|fail)
  ·exact fB fx fx (by grind [pv])
  ·refine hv ?_;exact ic (H (0,0,0) w ⟨rfl,fy,by simp,by simp,by simp,by simp,by simp,by simp⟩) (sub ⟨rfl,rfl,rfl,rfl⟩)
end
section
theorem Ft {k:IntKind} {a b:Int} (h:a=b):(some (.int k a):Option Value)=some (.int k b):=by rw[h]
end
section
end
section
def Xb (zs:List Int):Int:=zs.tail.foldl min (zs.headD 0)
def Xk (zs:List Int):Int:=zs.tail.foldl max (zs.headD 0)
structure Wa (f:Int->Int->Int) (zs:List Int) (w0:World) (k:Nat) (w:World):Prop where
 w:w=w0
 k1:1<=k
 le:k<=zs.length
theorem qq (f:Int->Int->Int) (zs:List Int) (a:Int) (k:Nat) (z:Int) (hk:1<=k) (d:zs[k]? =some z):f ((zs.tail.take (k-1)).foldl f a) z=(zs.tail.take k).foldl f a:=by
 obtain⟨j,rfl⟩:∃j,k=j+1:=⟨k-1,fy⟩
 grind [Nat.add_sub_cancel,List.tail_cons,List.getElem?_cons_succ,List.take_add_one]
theorem Qy (w:World) (v:Value) (zs:List Int) (s:qZ w v zs) (n:0<zs.length) (F:zs.length<=2^40):
  fL prog 397 #[v] w λr w'=>r= .int .i64 (Xb zs)/\w=w':=by
 obtain⟨A,c,rfl,hc,D,a⟩:=s;obtain⟨b,o,z,rfl,x,d,m,_⟩:=qj a n
 have E:zs.headD 0=z:=by cases zs with
  |nil=>simp at d
  |cons y r=>simpa using d
 rw[kS]at m;refine gr func397 fx fF ?_;refine wk ?_;refine gA (α:=Nat) (λk=>[(0,.slice (some ⟨b,o,none⟩) zs.length c),(3,.int .i64 ((zs.tail.take (k-1)).foldl min z)),(4,.int .i64 (k:Int))]) (Wa min zs w) (λk=>zs.length-k) 1 (sub ⟨rfl,by simp[look],rfl⟩) ⟨rfl,fy,by omega⟩ ?_;rintro k w' ⟨rfl,h1,hle⟩
 by_cases fW:k<zs.length
 ·obtain⟨b',o',u,e,B,t,C,_⟩:=qj a fW;injection e with e;injection e with f g;subst f;subst g
  refine wk ?_;refine Ot fx fx ?_;rw[qq min zs z k u h1 t];refine wk ?_;exact gn ⟨k+1,sub ⟨rfl,rfl,rfl⟩,⟨rfl,fy,by omega⟩,by dsimp only;omega⟩
 ·obtain rfl:k=zs.length:=fy;refine wk ?_;refine fB fx fx ⟨?_,rfl⟩
  grind [Xb,List.take_of_length_le]
theorem O2 (w:World) (v:Value) (zs:List Int) (s:qZ w v zs) (n:0<zs.length) (F:zs.length<=2^40):
  fL prog 398 #[v] w λr w'=>r= .int .i64 (Xk zs)/\w=w':=by
 obtain⟨A,c,rfl,hc,D,a⟩:=s;obtain⟨b,o,z,rfl,x,d,m,_⟩:=qj a n
 have E:zs.headD 0=z:=by cases zs with
  |nil=>simp at d
  |cons y r=>simpa using d
 rw[kS]at m;refine gr func398 fx fF ?_;refine wk ?_;refine gA (α:=Nat) (λk=>[(0,.slice (some ⟨b,o,none⟩) zs.length c),(3,.int .i64 ((zs.tail.take (k-1)).foldl max z)),(4,.int .i64 (k:Int))]) (Wa max zs w) (λk=>zs.length-k) 1 (sub ⟨rfl,by simp[look],rfl⟩) ⟨rfl,fy,by omega⟩ ?_;rintro k w' ⟨rfl,h1,hle⟩
 by_cases fW:k<zs.length
 ·obtain⟨b',o',u,e,B,t,C,_⟩:=qj a fW;injection e with e;injection e with f g;subst f;subst g
  refine wk ?_;refine RS fx fx ?_;rw[qq max zs z k u h1 t];refine wk ?_;exact gn ⟨k+1,sub ⟨rfl,rfl,rfl⟩,⟨rfl,fy,by omega⟩,by dsimp only;omega⟩
 ·obtain rfl:k=zs.length:=fy;refine wk ?_;refine fB fx fx ⟨?_,rfl⟩
  grind [Xk,List.take_of_length_le]
end
section
def jO (zs:List Int) (l:Nat):Nat:=if l=0 then 0 else zs.count (l:Int)
def gw (zs:List Int):Nat->Nat
 |0=>0
 |l+1=>(gw zs l+jO zs l)*2
def D8 (f m:Nat->Nat):List Value:=(List.range 13).map (λl=>Value.int .u64 (f l:Int))++(List.range 13).map (λl=>Value.int .u64 (m l:Int))
def lG (f m:Nat->Nat):Array Value:=(D8 f m).toArray
def xC (f:Nat->Nat) (n v:Nat):Nat->Nat:=λl=>if l=n then v else f l
theorem ju (f m:Nat->Nat):(lG f m).size=26:=by simp[lG,D8]
theorem yT (f m:Nat->Nat) (l:Nat) (h:l<13):(lG f m)[l]? =some (.int .u64 (f l:Int)):=by
 grind [lG,D8,List.getElem?_append_left]
theorem Ec (f m:Nat->Nat) (l:Nat) (h:l<13):(lG f m)[13+l]? =some (.int .u64 (m l:Int)):=by
 grind [lG,D8,List.getElem?_append_right]
theorem AH (f m:Nat->Nat) (n v:Nat) (h:n<13):(lG f m).setIfInBounds n (.int .u64 (v:Int))=lG (xC f n v) m:=by
 apply Gh;apply vm
 grind [Array.toList_setIfInBounds,lG,xC,D8,yT,Ec,Array.getElem?_eq_none,ju]
theorem yX (f m:Nat->Nat) (n v:Nat) (h:n<13):(lG f m).setIfInBounds (13+n) (.int .u64 (v:Int))=lG f (xC m n v):=by
 apply Gh;apply vm
 grind [Array.toList_setIfInBounds,lG,xC,D8,Ec,yT,Array.getElem?_eq_none,ju]
theorem n5 {f f' m m':Nat->Nat} (a:∀l,l<13->f l=f' l) (hm:∀l,l<13->m l=m' l):lG f m=lG f' m':=by
 unfold lG D8
 congr 2<;>simp_all
theorem Fc (f m:Nat->Nat):(lG f m).all (·.oneCell')=true:=by
 rw[MZ];intro v a;simp only[lG,D8,List.mem_toArray,iK,lN]at a;rcases a with⟨l,_,rfl⟩|⟨l,_,rfl⟩<;>rfl
theorem MB (zs:List Int) (a:zs.length<=400):∀l,gw zs l+jO zs l<=400*2^(l+1)-400:=by
 have hm:∀l,jO zs l<=400:=by grind [jO,Nat.le_trans,List.count_le_length]
 intro l
 induction l<;>grind [gw,Nat.pow_succ,Nat.two_pow_pos]
theorem sj (zs:List Int) (a:zs.length<=400) (l:Nat) (h:l<=12):gw zs l+jO zs l<4000000:=by
 have h1:=MB zs a l;have d:2^(l+1)<=2^13:=Ae fV fy;omega
def u2 (zs:List Int):Prop:=∀z∈zs,0<=z/\z<=12
structure acE (zs:List Int) (g g2:Nat) (w0:World) (k:Nat) (w:World):Prop where
 le:k<=zs.length
 B:fU w g 469 (lG (λ_=>0) (λl=>(zs.take k).count (l:Int)))
 B2:fU w g2 469 (lG (λ_=>0) (λ_=>0))
 ext:Ext w0 w
structure adS (zs:List Int) (g g2:Nat) (w0:World) (n:Nat) (w:World):Prop where
 n1:1<=n
 le:n<=13
 B:fU w g 469 (lG (λl=>if l<n then gw zs l else 0) (jO zs))
 B2:fU w g2 469 (lG (λ_=>0) (λ_=>0))
 ext:Ext w0 w
theorem wL (w:World) (v:Value) (zs:List Int) (M:qZ w v zs) (U:u2 zs) (f:zs.length<=400):
  fL prog 425 #[v] w λr w'=>r= .agg (lG (gw zs) (jO zs))/\Ext w w':=by
 have ai:=M;obtain⟨A,c,rfl,hc,aa,N⟩:=M;refine gr func425 fx fF ?_;refine wk ?_;refine gy (z:= .agg (lG (λ_=>0) (λ_=>0))) fF (λal O Q T=>?_);refine wk ?_;refine h9 (α:=Nat) 0 fx (λn=>[(2,.pointer (some ⟨w.heap.size,0,none⟩)),(3,.pointer (some ⟨w.heap.size+1,0,none⟩)),(6,.int .i64 (n:Int))]) (adS zs (w.heap.size+1) w.heap.size w) (λn=>13-n) ?_ ?_
 ·rintro n y ⟨ah,ag,u,g,J⟩
  by_cases fW:n<=12
  ·obtain⟨m,rfl⟩:∃m,n=m+1:=⟨n-1,fy⟩;have af:=sj zs f m fy;have X:y.cell? ⟨w.heap.size+1,m,none⟩=some (.int .u64 (gw zs m:Int)):=by rw[u.cell,yT _ _ _ fy];simp
   have Y:y.cell? ⟨w.heap.size+1,13+m,none⟩=some (.int .u64 (jO zs m:Int)):=by rw[u.cell,Ec _ _ _ fy]
   refine wk ?_;refine Sh m m fx fx fx fx fy fy fy ?_;refine wk ?_;refine Sh m (13+m) fx fx fx fx fy fy fy ?_;refine wk ?_
   refine Jt (r:=(gw zs (m+1):Int)) fx fx fV fV (by
    grind [gw,jO,u64_in]) ?_
   refine wk ?_;refine Sh (m+1) (m+1) fx fx fx fx fy fy fy ?_;refine wk ?_;refine iq u fx fx fx fx (by grind [ju]) (λB d D=>?_);refine wk ?_;have L:Fr (· =w.heap.size+1) y B:=(Fr.drew _ _).t D;refine gX fx ⟨_,fS,rfl,m+1+1,sub ⟨rfl,rfl,rfl⟩,⟨fy,by omega,?_,g.fr L fy,J.te L λj E e=>fy⟩,rfl⟩;rw[AH _ _ _ _ fy]at d;rw[n5 (f':=xC (λl=>if l<m+1 then gw zs l else 0) (m+1) (gw zs (m+1))) (m':=jO zs) (λl f=>?_) (λl f=>rfl)]
   ·exact d
   grind [xC]
  ·obtain rfl:n=13:=fy;refine wk ?_;refine gM u fx (by rw[ju];rfl) ?_;refine hd g fx fx (by rw[ju];rfl) (by grind [ju]) (Fc _ _) (λB d D=>?_);refine wk ?_;have e:lG (λl=>if l<13 then gw zs l else 0) (jO zs)=lG (gw zs) (jO zs):=by grind [n5]
   rw[e]at d;refine Cn fx fx d (by rw[ju];rfl) ⟨rfl,J.te D λj E e=>fy⟩
 ·intro H;refine wk ?_;refine gy (z:= .agg (lG (λ_=>0) (λ_=>0))) fF (λy g K aj=>?_);rw[T]at g⊢;refine wk ?_;refine gA (α:=Nat) (λk=>[(2,.pointer (some ⟨w.heap.size,0,none⟩)),(3,.pointer (some ⟨w.heap.size+1,0,none⟩)),(7,.slice A zs.length c),(8,.int .i64 (zs.length:Int)),(9,.int .i64 (k:Int))]) (acE zs (w.heap.size+1) w.heap.size w) (λk=>zs.length-k) 0 (sub ⟨rfl,rfl,rfl,rfl,rfl⟩) ⟨fy,g,O.ext K,Q.te K λ_ _ S=>S⟩ ?_;rintro k B ⟨hk,d,G,C⟩
  by_cases fW:k<zs.length
  ·obtain⟨b,o,z,rfl,W,ak,R,ae⟩:=qj N fW;have V:=U z fS;obtain⟨q,rfl⟩:=lO V.1;have Z:=C.cell R;have ad:B.cell? ⟨w.heap.size+1,13+q,none⟩=some (.int .u64 ((zs.take k).count (q:Int):Int)):=by rw[d.cell,Ec _ _ _ fy]
   have ab:(zs.take k).count (q:Int)<=400:=by
    have:=wY (a:=(q:Int)) (l:=zs.take k);rw[kt]at this;omega
   refine wk ?_;refine Sh q (13+q) fx fx fx fx fy fy fy ?_;refine wk ?_;refine wk ?_;refine Sh q (13+q) fx fx fx fx fy fy fy ?_;refine iq d fx fx fx fx (by grind [ju]) (λF x s=>?_);refine wk ?_;refine gn ⟨k+1,sub ⟨rfl,rfl,rfl,rfl,rfl⟩,⟨fy,?_,G.fr s fy,C.te s λj E e=>fy⟩,by dsimp only;omega⟩;have e:((List.count (q:Int) (List.take k zs):Int)+1)=((List.count (q:Int) (List.take k zs)+1:Nat):Int):=fy;rw[e,yX _ _ _ _ fy]at x;rw[n5 (f':=λ_=>0) (m':=xC (λl=>(zs.take k).count (l:Int)) q ((zs.take k).count (q:Int)+1)) (λl f=>rfl) (λl f=>?_)]
   ·exact x
   grind [List.take_add_one,xC,Option.toList_some,List.count_singleton]
  ·obtain rfl:k=zs.length:=fy;refine wk ?_;refine Sh 0 13 fx fx fx fx fy fy fy ?_;refine iq d fx fx fx fx (by rw[ju];rfl) (λF x s=>?_);refine wk ?_;refine hv ?_;refine ic (H 1 F ⟨fy,by omega,?_,G.fr s fy,C.te s λj E e=>fy⟩) (sub ⟨rfl,rfl,rfl⟩);have I:fU F (w.heap.size+1) 469 ((lG (λ_=>0) (λl=>(zs.take zs.length).count (l:Int))).setIfInBounds (13+0) (.int .u64 ((0:Nat):Int))):=x;rw[yX _ _ _ _ fy]at I;rw[n5 (f':=λ_=>0) (m':=xC (λl=>(zs.take zs.length).count (l:Int)) 0 0) (λl f=>?_) (λl f=>?_)]
   ·exact I
   ·by_cases h1:l<1
    ·obtain rfl:l=0:=fy;rfl
    ·rw[if_neg h1]
   grind [xC,jO,List.take_length]
def oy (zs:List Int) (s:Nat):Nat:=match zs[s]? with
 |some z=>if 0<z then gw zs z.toNat+(zs.take s).count z else 0
 |none=>0
def p4 (zs:List Int):List Int:=(List.range zs.length).map λs=>(oy zs s:Int)
def UB (w:World) (b:Nat) (l:List Int):Prop:=fU w b 50 (l.map (Value.int .u64)).toArray
theorem Fu:xv 248 50 (.int .u64 0) 1 8:=M7 underlying248 fF
def lA (zs:List Int) (k:Nat):List Int:=(List.range zs.length).map λs=>if s<k then(oy zs s:Int)else 0
structure ad9 (zs:List Int) (g b:Nat) (w0:World) (k:Nat) (w:World):Prop where
 le:k<=zs.length
 B:fU w g 469 (lG (λl=>gw zs l+if l=0 then 0 else(zs.take k).count (l:Int)) (jO zs))
 U:UB w b (lA zs k)
 ext:Ext w0 w
theorem K1 (h:pv zs=true):zs.length<=400:=by
 grind [pv]
theorem zk (h:pv zs=true):u2 zs:=by
 simp only[pv,iO,decide_eq_true_eq]at h
 have key:∀(l:List Int) (c s:Int),lQ l c s=true->u2 l:=by
  intro l
  induction l with
  |nil=>intro c s _ z a;cases a
  |cons n r d=>
   grind [oM,u2]
 grind
theorem Be {k:Nat} {z:Int} (h:zs[k]? =some z):(zs.take k).count z<zs.count z:=by
 grind [List.length,List.getElem?_eq_some_iff,List.getElem?_eq_getElem,List.drop_eq_getElem_cons,List.take_append_drop,List.count_cons_self]
theorem Ke (w:World) (v:Value) (zs:List Int) (L:qZ w v zs) (hm:pv zs=true):
  fL prog 402 #[v] w λr w'=>∃b,r= .slice (some ⟨b,0,none⟩) zs.length zs.length/\w.heap.size<=b/\UB w' b (p4 zs)/\Ext w w':=by
 have K:=L;have m:=K1 hm;have M:=zk hm;obtain⟨A,c,rfl,hc,al,S⟩:=L;refine gr func402 fx fF ?_;refine wk ?_;refine h9 (α:=Nat×Nat×Nat) 0 fx (λx=>[(0,.slice A zs.length c),(3,.pointer (some ⟨x.2.1,0,none⟩)),(4,.slice (some ⟨x.2.2,0,none⟩) zs.length zs.length),(5,.int .i64 (x.1:Int))]) (λx w'=>ad9 zs x.2.1 x.2.2 w x.1 w'/\w.heap.size<=x.2.1/\w.heap.size<=x.2.2) (λx=>zs.length-x.1) ?_ ?_
 ·rintro⟨k,g,b⟩ N ⟨⟨hk,a,f,n⟩,u,t⟩;dsimp only at hk a f u t⊢;have Z:g≠b:=fU.Br a f fV
  by_cases fW:k<zs.length
  ·obtain⟨ai,o0,z,rfl,aj,af,Y,ao⟩:=qj S fW;have ag:=M z fS;obtain⟨q,rfl⟩:=lO ag.1;have ak:=n.cell Y
   by_cases hq:q=0
   ·subst hq;refine wk ?_;refine gX fx ⟨_,fS,rfl,(k+1,g,b),sub ⟨rfl,rfl,rfl,rfl⟩,⟨⟨by dsimp only;omega,?_,?_,n⟩,u,t⟩,rfl⟩
    ·grind
    grind [lA,List.map_congr_left,oy]
   ·have ap:=sj zs m q fy;have aa:jO zs q=zs.count (q:Int):=by unfold jO;rw[if_neg hq]
    have ae:=Be af;rw[←aa]at ae;have am:N.cell? ⟨g,q,none⟩=some (.int .u64 ((gw zs q+(zs.take k).count (q:Int):Nat):Int)):=by rw[a.cell,yT _ _ _ fy];simp[hq]
    refine wk ?_;refine Sh q q fx fx fx fx fx fy fy ?_;refine wk ?_;refine iq f fx fx fx fx (by grind [lA]) (λB X F=>?_);have C:=a.fr F fy;have an:B.cell? ⟨g,q,none⟩=some (.int .u64 ((gw zs q+(zs.take k).count (q:Int):Nat):Int)):=by rw[C.cell,yT _ _ _ fy];simp[hq]
    refine wk ?_;refine Sh q q fx fx fx fx fx fy fy ?_;refine wk ?_;refine Sh q q fx fx fx fx fx fy fy ?_;refine iq C fx fx fx fx (by grind [ju]) (λO d I=>?_);refine wk ?_;refine gX fx ⟨_,fS,rfl,(k+1,g,b),sub ⟨rfl,rfl,rfl,rfl⟩,⟨⟨by dsimp only;omega,?_,?_,(n.te F λj J e=>fy).te I λj J e=>fy⟩,u,t⟩,rfl⟩
    ·have e:((gw zs q+(zs.take k).count (q:Int):Nat):Int)+1=((gw zs q+(zs.take k).count (q:Int)+1:Nat):Int):=fy;rw[e,AH _ _ _ _ fy]at d;dsimp only;rw[n5 (f':=xC (λl=>gw zs l+if l=0 then 0 else(zs.take k).count (l:Int)) q (gw zs q+(zs.take k).count (q:Int)+1)) (m':=jO zs) (λl m=>?_) (λl m=>rfl)]
     ·exact d
     grind [xC,List.take_add_one,Option.toList_some,List.count_singleton]
    ·dsimp only
     have:UB O b ((lA zs k).set k ((gw zs q+(zs.take k).count (q:Int):Nat):Int)):=by
      unfold UB;rw[qu];have:=fU.fr X I (by show ¬b=g;exact uM Z);simpa using this
     have e:(lA zs k).set k ((gw zs q+(zs.take k).count (q:Int):Nat):Int)=lA zs (k+1):=by
      apply vm;intro s;rw[OM];unfold lA
      by_cases hs:s<zs.length
      ·grind [List.length_map,List.length_range,List.getElem?_range,oy]
      ·grind
     grind
  ·obtain rfl:k=zs.length:=fy;refine wk ?_
   have e:lA zs zs.length=p4 zs:=by
    unfold lA p4;exact mu
   rw[e]at f;exact fB fx fx fS
 ·intro H;refine wk ?_;refine fI fx fx (CL w _ zs K) (λr N h1=>?_);obtain⟨rfl,rfl⟩:=h1;rw[hm];refine wk ?_;refine fI fx fx (wL _ _ zs K M m) (λr B R=>?_);obtain⟨rfl,D⟩:=R;refine gy (z:= .agg (lG (λ_=>0) (λ_=>0))) fF (λO d V aq=>?_);refine hd d fx fx (by rw[ju];rfl) (by show(lG _ _).size=_;grind [ju]) (Fc _ _) (λQ T W=>?_);refine wk ?_;refine XQ Fu fx fx fx fy fy fy (λah U E ar=>?_);rw[jf]at U⊢;refine wk ?_;refine hv ?_;have ab:=D.size;have G:Ext w Q:=(D.te V λ_ _ y=>y).te W λj J e=>fy
  have ad:=G.size;refine ic (H (0,B.heap.size,Q.heap.size) ah ⟨⟨by dsimp only;omega,?_,?_,G.te E λ_ _ y=>y⟩,ab,ad⟩) (sub ⟨rfl,rfl,rfl,rfl⟩)
  ·dsimp only;have:=T.ext E
   simp_all
  ·dsimp only;unfold UB
   have e:lA zs 0=List.replicate zs.length 0:=by
    apply wM
    ·simp[lA]
    ·grind [lA]
   simp_all
end
end Go.Proofs.YtecaahegomdbbaaGreatDoor.gp
namespace Go.Proofs.YtecaahegomdbbaaGreatDoor.gp.Rn
open Go.Proofs.Tryz
open Go.RowKit
variable {v:AV} {e:En} {l:List Nat} {f:Nat}
noncomputable section
section
def e0:En:=⟨[],[],[],[]⟩
def ZM (q:IntKind) (l:List SV) (k:List Nat->Rs):Rs:=List.rec (motive:=λ_=>(List Nat->Rs)->Rs) (λk=>k []) (λx _ d k=>tX (.v x) λf a=>sI f q (d λr=>k (a::r))) l k
def WY (a:Mem) (x:AV) (k:List Nat->Rs):Rs:=LI x (k []) (λid z j n=>J6 a id (Nat.mul j z) n λl=>ZM .i64 l k) (λid z j n _=>J6 a id (Nat.mul j z) n λl=>ZM .i64 l k) (k []) (λ_=> .no) λ_ _=> .no
def Xh (al:List AV) (k:AV->Rs):Rs:=List.rec (motive:=λ_=>Rs) .no (λx r _=>List.rec (motive:=λ_=>Rs) (k x) (λ_ _ _=> .no) r) al
def bR (a:Mem) (b:Bool):Rs:=Bool.rec (motive:=λ_=>Rs) (.mk (.val (.v (.b false))) e0 a) (.mk (.val (.v (.b true))) e0 a) b
def RC (l:List Nat):Nat:=List.rec (motive:=λ_=>Nat) 0 (λ_ _ a=>Nat.add a 1) l
theorem wB:∀l:List Nat,RC l=l.length
 |[]=>rfl
 |_::l=>by
  show Nat.add (RC l) 1=_
  rw[wB l];rfl
section
variable {w0:Fm} {σ:Mem} {res:Rs} {ρ:Pl} {w:World} (hr:res≠ .no)
include hr
theorem LG {q:IntKind}:∀{l:List SV} {vs:List Value} {k:List Nat->Rs},ZM q l k=res->jU ρ l vs->∃r:List Nat,r.length=l.length/\vs=r.map (λa=>Value.int q (Int.ofNat a))/\k r=res
 |[],vs,k,h,d=>by
  cases d;exact⟨[],rfl,rfl,h⟩
 | x::l,vs,k,h,d=>by
  cases d with
  |cons h1 g=>
   obtain⟨f,a,e0,g1⟩:=im hr (show tX (.v x) (λf a=>sI f q (ZM q l λr=>k (a::r)))=res from h);obtain⟨g2,g3⟩:=iv hr g1;subst g2;injection e0 with e0
   subst e0;obtain⟨r,g4,g5,g6⟩:=LG g3 g;exact⟨a::r,by simp[g4],by rw[h1.2.1,g5,jm],g6⟩
theorem KK (D:MR w0 ρ σ w) {x:AV} {g:Value} {k:List Nat->Rs} (f:AR ρ x g) (h:WY σ x k=res):∃r:List Nat,qZ w g (r.map Int.ofNat)/\k r=res:=by
 have row:∀{id o n cap:Nat} {p:At} {k:List Nat->Rs},ρ[id]? =some p->n<=cap->cap<=maxLen->J6 σ id o n (λl=>ZM .i64 l k)=res->∃r:List Nat,qZ w (.slice (some ⟨p.b,o,none⟩) n cap) (r.map Int.ofNat)/\k r=res:=λ{id o n cap p k} d h1 t h=>by
  obtain⟨H,l,g3,g4,g5,g6⟩:=l6 hr h;obtain⟨vs,v,y⟩:=D.cells d (l:=l) (o:=o) fS;obtain⟨r,G,B,C⟩:=LG hr g6 v;refine⟨r,⟨some ⟨p.b,o,none⟩,cap,by grind,by grind,t,λm=>⟨p.b,o,rfl,?_,λj u hu=>?_⟩⟩,C⟩
  ·rw[jF]at m;have F:vs[0]? =some (Value.int .i64 (Int.ofNat r[0])):=by rw[B];simp[m]
   exact Pb w ⟨p.b,o+0,none⟩ (y 0 _ F).1
  grind
 rcases kL hr h with⟨a,g1⟩|⟨id,z,j,n,a,g1⟩|⟨id,z,j,n,c,a,g1⟩|⟨_,_,_,_,a,g1⟩|⟨l,a,g1⟩|⟨id,o,a,g1⟩<;>subst a
 ·have s:g= .slice none 0 0:=f;subst s;exact⟨[],⟨none,0,rfl,gJ _,iy _,fS⟩,g1⟩
 ·obtain⟨p,d,_,hc,hm,rfl⟩:=f;exact row d fy fy g1
 ·obtain⟨p,d,E,hm,rfl⟩:=f;exact row d E hm g1
 ·obtain⟨p,d,hm,rfl⟩:=f;exact⟨[],⟨_,_,rfl,iy _,fy,fS⟩,g1⟩
 ·grind
 grind
theorem Kh {al:List AV} {vs:List Value} {k:AV->Rs} (d:A1 ρ al vs) (h:Xh al k=res):∃x v,vs=[v]/\AR ρ x v/\k x=res:=by
 cases d with
 |nil=>exact absurd h.symm hr
 |cons h1 a=>
  cases a with
  |nil=>exact⟨_,_,rfl,h1,h⟩
  |cons _ _=>exact absurd h.symm hr
end
theorem iI {a:Mem}:Rs.mk (.val v) e a≠ .no:=λh=>by cases h
theorem Rf {a d:Mem} {b:Bool} (h:bR a b= .mk (.val v) e d):v= .v (.b b)/\d=a:=by
 cases b<;>(injection h with h1 _ f;grind)
theorem uZ {o:List AV->Mem->Rs} {g:List Nat->Mem->Rs} (E:∀al d,o al d=Xh al λx=>WY d x λl=>g l d) (D:∀(r:List Nat) (v:Value) (d:Mem) (w:World) (a:AV) e m,qZ w v (r.map Int.ofNat)->g r d= .mk (.val a) e m->m=d/\fL prog f #[v] w λval w'=>(∀ρ,AR ρ a val)/\Ext w w'):sN f o:=λw0 al d a e' m ρ vs w h B n=>by
 rw[E]at h;obtain⟨x,v,rfl,h1,t⟩:=Kh iI B h;obtain⟨r,u,y⟩:=KK iI n h1 t;obtain⟨rfl,C⟩:=D r v d w a e' m u y;exact fL.mono C λval w' s=>⟨ρ,Up.refl ρ,s.1 ρ,n.ext s.2⟩
def C9 (l:List Nat) (c s:Nat):Bool:=List.rec (motive:=λ_=>Nat->Nat->Bool) (λc s=>Bool.rec (motive:=λ_=>Bool) (Bool.rec (motive:=λ_=>Bool) (Nat.beq s 4096) true (Nat.beq c 0)) (Nat.beq s 2048) (Nat.beq c 1)) (λn _ a c s=>Bool.rec (motive:=λ_=>Bool) false (Nat.rec (motive:=λ_=>Bool) (a c s) (λ_ _=>cN (Nat.add c 1) λc=>cN (Nat.add s (Nat.pow 2 (Nat.sub 12 n))) λs=>a c s) n) (Nat.ble n 12)) l c s
def FW (l:List Nat):Bool:=an (Nat.ble (RC l) 400) (C9 l 0 0)
theorem nP (a b:Nat):Nat.beq a b=decide (a=b):=by
 grind [ke]
theorem Xx (a b:Bool):an a b=(a&&b):=by cases a<;>rfl
theorem AP:∀(l:List Nat) (c s:Nat),C9 l c s=lQ (l.map Int.ofNat) c s
 | [],c,s=>by
  show Bool.rec (motive:=λ_=>Bool) (Bool.rec (motive:=λ_=>Bool) (Nat.beq s 4096) true (Nat.beq c 0)) (Nat.beq s 2048) (Nat.beq c 1)=_
  rw[Pe,tM];rcases ke c 1 with⟨h1,a⟩|⟨h1,a⟩
  ·have d:(c:Int)=1:=fy;rw[a,if_pos d]
   grind [Nat.beq,nP]
  ·have d:¬(c:Int)=1:=fy;rw[a,if_neg d];rcases ke c 0 with⟨t,f⟩|⟨t,f⟩
   ·simp_all
   ·rw[f]
    grind [decide,Nat.beq,nP]
 | n::l,c,s=>by
  have g:C9 (n::l) c s=Bool.rec (motive:=λ_=>Bool) false (Nat.rec (motive:=λ_=>Bool) (C9 l c s) (λ_ _=>cN (Nat.add c 1) λc=>cN (Nat.add s (Nat.pow 2 (Nat.sub 12 n))) λs=>C9 l c s) n) (Nat.ble n 12):=rfl;rw[g,jm,oM];cases u:Nat.ble n 12 with
  |false=>
   grind [Nat.ble_eq_true_of_le]
  | true=>
   have hle:=iY u;rw[if_neg fS];cases n with
   |zero=>
    rw[if_neg fV];exact AP l c s
   |succ m=>
    rw[if_pos fS];show cN (Nat.add c 1) (λc=>cN (Nat.add s (Nat.pow 2 (Nat.sub 12 (m+1)))) λs=>C9 l c s)=_
    rw[iJ,iJ,AP]
    congr 1
    show((s+2^(12-(m+1)):Nat):Int)=_
    grind [p2]
theorem Ew (l:List Nat):FW l=pv (l.map Int.ofNat):=by
 grind [FW,pv,Xx,AP,nJ,wB,List.length_map]
def Y5 (al:List AV) (a:Mem):Rs:=Xh al λx=>WY a x λl=>bR a (FW l)
theorem TZ:sN 401 Y5:=uZ (g:=λl d=>bR d (FW l)) (λ_ _=>rfl) λr v d w a e n m h=>by
 obtain⟨rfl,rfl⟩:=Rf h;refine⟨rfl,fL.mono (CL w v _ m) λval w' f=>?_⟩;obtain⟨rfl,rfl⟩:=f;exact⟨λρ=>by rw[Ew];rfl,Fr.refl _ _⟩
def Vw (up:Bool) (l:List Nat) (a:Nat) (k:Nat->Rs):Rs:=List.rec (motive:=λ_=>Nat->Rs) k (λx _ d a=>yQ (eB up (Nat.ble a x)) (d x) (d a)) l a
theorem JS (up:Bool):∀(l:List Nat) (a:Nat) (k:Nat->Rs),Vw up l a k=k (l.foldl (λa x=>if up then max a x else min a x) a)
 |[],_,_=>rfl
 |x::l,a,k=>by
  have d:Vw up (x::l) a k=yQ (eB up (Nat.ble a x)) (Vw up l x k) (Vw up l a k):=rfl;rw[d,me,xa,JS,JS,nJ,u3]
  grind
def mxO (up:Bool) (al:List AV) (d:Mem):Rs:=Xh al λx=>WY d x λl=>List.rec (motive:=λ_=>Rs) .no (λa r _=>jb (Nat.ble (RC (a::r)) 1000000) (Vw up r a λm=>jb (Nat.ble m 9223372036854775807) (.mk (.val (.v (.n .i64 m))) e0 d))) l
theorem QX {up:Bool} {f g:Mem} (h:(List.rec (motive:=λ_=>Rs) .no (λa r _=>jb (Nat.ble (RC (a::r)) 1000000) (Vw up r a λm=>jb (Nat.ble m 9223372036854775807) (.mk (.val (.v (.n .i64 m))) e0 f))) l)= .mk (.val v) e g):∃a r,l=a::r/\l.length<=1000000/\v= .v (.n .i64 (r.foldl (λa x=>if up then max a x else min a x) a))/\r.foldl (λa x=>if up then max a x else min a x) a<=9223372036854775807/\g=f:=by
 cases l with
 |nil=>cases h
 |cons a r=>
  obtain⟨h1,h⟩:=fO fy iI;rw[JS]at h;obtain⟨t,h⟩:=fO h iI;have h1:=iY h1;rw[wB]at h1;injection h with d _ s
  injection d with d
  exact⟨a,r,rfl,h1,d.symm,mu,s.symm⟩
theorem Hs:∀(r:List Nat) (a:Nat),(r.map Int.ofNat).foldl max (a:Int)=((r.foldl (λa x=>if true then max a x else min a x) a:Nat):Int)
 |[],_=>rfl
 |x::r,a=>by
  rw[jm,u3,u3];have:max (a:Int) (Int.ofNat x)=((max a x:Nat):Int):=by show max (a:Int) (x:Int)=_;omega
  rw[this];exact Hs r _
theorem F6:∀(r:List Nat) (a:Nat),(r.map Int.ofNat).foldl min (a:Int)=((r.foldl (λa x=>if false then max a x else min a x) a:Nat):Int)
 |[],_=>rfl
 |x::r,a=>by
  rw[jm,u3,u3];have:min (a:Int) (Int.ofNat x)=((min a x:Nat):Int):=by show min (a:Int) (x:Int)=_;omega
  rw[this];exact F6 r _
theorem Tv:sN 398 (mxO true):=uZ (g:=λl d=>List.rec (motive:=λ_=>Rs) .no (λa r _=>jb (Nat.ble (RC (a::r)) 1000000) (Vw true r a λm=>jb (Nat.ble m 9223372036854775807) (.mk (.val (.v (.n .i64 m))) e0 d))) l) (λ_ _=>rfl) λr v d w a e u t h=>by
 obtain⟨x,r,rfl,h1,rfl,f,rfl⟩:=QX h;refine⟨rfl,fL.mono (O2 w v _ t ir fS) λval w' s=>?_⟩;obtain⟨rfl,rfl⟩:=s;exact⟨λρ=>⟨by grind [Xk,Hs],f⟩,Fr.refl _ _⟩
theorem Uo:sN 397 (mxO false):=uZ (g:=λl d=>List.rec (motive:=λ_=>Rs) .no (λa r _=>jb (Nat.ble (RC (a::r)) 1000000) (Vw false r a λm=>jb (Nat.ble m 9223372036854775807) (.mk (.val (.v (.n .i64 m))) e0 d))) l) (λ_ _=>rfl) λr v d w a e u t h=>by
 obtain⟨x,r,rfl,h1,rfl,f,rfl⟩:=QX h;refine⟨rfl,fL.mono (Qy w v _ t ir fS) λval w' s=>?_⟩;obtain⟨rfl,rfl⟩:=s;exact⟨λρ=>⟨by grind [Xb,F6],f⟩,Fr.refl _ _⟩
end
section
def dg (T j:Nat):Nat:=Nat.mod (Nat.shiftRight T (Nat.mul 16 j)) 65536
def JQ (x:Nat):Nat:=Nat.shiftLeft 1 (Nat.mul 16 x)
def Ii (l:List Nat):Nat:=List.rec (motive:=λ_=>Nat) 0 (λx _ a=>Nat.add a (JQ x)) l
def AF:List Nat->Nat
 |[]=>0
 |d::r=>d+65536*AF r
theorem Sa (x:Nat):JQ x=65536^x:=by
 show 1<<<(16*x)=_
 grind [Nat.shiftLeft_eq,Nat.pow_mul]
theorem Q5 (T j:Nat):dg T j=T/65536^j% 65536:=by
 show(T>>>(16*j))% 65536=_
 rw[LB,Nat.pow_mul]
theorem Vm:∀{ds:List Nat} {j:Nat},(∀d∈ds,d<65536)->dg (AF ds) j=ds[j]?.getD 0
 |[],j,_=>by rw[Q5];simp[AF]
 |d::r,0,h=>by
  simp_all [Q5,AF]
 |d::r,j+1,h=>by
  have g:=h d ir;have a:=Vm (ds:=r) (j:=j) fS;rw[Q5]at a⊢;rw[C8,←a];show(d+65536*AF r)/65536^(j+1)% 65536=_
  have f:(d+65536*AF r)/65536=AF r:=fy
  grind [Nat.pow_succ,Nat.mul_comm,Nat.div_div_eq_div_mul]
theorem zn:∀{ds:List Nat} {j:Nat},j<ds.length->AF (ds.modify j (· +1))=AF ds+65536^j
 |[],j,h=>by cases h
 |d::r,0,_=>by
  grind [AF]
 |d::r,j+1,h=>by
  have a:=zn (ds:=r) (j:=j) fS
  grind [AF,Nat.pow_succ]
def Ig (F:Nat->Nat) (l:List Nat):List Nat:=(List.range 13).map λj=>F j+l.count j
theorem EV (F:Nat->Nat) (l:List Nat) {x:Nat} (a:x<=12):AF (Ig F (l++[x]))=AF (Ig F l)+JQ x:=by
 rw[Sa,←zn (by simp[Ig];omega)]
 congr 1
 apply vm
 grind [Ig,List.getElem?_range,List.count_singleton,List.getElem?_eq_none]
theorem Oz:∀{l:List Nat},(∀x∈l,x<=12)->Ii l=AF (Ig (λ_=>0) l)
 |[],_=>by
  show(0:Nat)=_
  decide
 |x::l,h=>by
  have a:=Oz (l:=l) fS;show Ii l+JQ x=_
  rw[a,←EV _ _ (h x ir)]
  grind [Ig,List.map_congr_left,List.count_singleton]
theorem Ks {F:Nat->Nat} {j:Nat} (d:j<=12) (a:∀i,i<=12->F i+l.count i<65536):dg (AF (Ig F l)) j=F j+l.count j:=by
 grind [Vm,Ig,List.getElem?_range]
def mN (T j:Nat):Nat:=Nat.rec (motive:=λ_=>Nat) 0 (λ_ _=>dg T j) j
def fsK (T n j f:Nat) (k:List Nat->Rs):Rs:=Nat.rec (motive:=λ_=>Nat->Nat->(List Nat->Rs)->Rs) (λ_ _ k=>k []) (λ_ a j f k=>fN (Nat.mul (Nat.add f (mN T j)) 2) λf'=>fN (Nat.add j 1) λd=>a d f' λr=>k (f::r)) n j f k
def YS (T n j:Nat) (k:List Nat->Rs):Rs:=Nat.rec (motive:=λ_=>Nat->(List Nat->Rs)->Rs) (λ_ k=>k []) (λ_ a j k=>fN (mN T j) λx=>fN (Nat.add j 1) λd=>a d λr=>k (x::r)) n j k
def uK (l:List Nat) (k:List SV->Rs):Rs:=List.rec (motive:=λ_=>(List SV->Rs)->Rs) (λk=>k []) (λx _ a k=>jb (Nat.ble x 60000) (a λr=>k (.n .u64 x::r))) l k
theorem Eo {res:Rs} (a:res≠ .no):∀{l:List Nat} {k:List SV->Rs},uK l k=res->(∀x∈l,x<=60000)/\k (l.map λx=> .n .u64 x)=res
 |[],k,h=>⟨λx f=>(by cases f),h⟩
 |x::l,k,h=>by
  obtain⟨h1,d⟩:=fO (show jb (Nat.ble x 60000) (uK l λr=>k (.n .u64 x::r))=res from h) a;obtain⟨g,m⟩:=Eo a d
  simp_all
theorem Po (ρ:Pl):∀{l:List Nat},(∀x∈l,x<=60000)->jU ρ (l.map λx=> .n .u64 x) (l.map λx=>Value.int .u64 (Int.ofNat x))
 |[],_=> .nil
 | x::l,h=> .cons ⟨rfl,rfl,by
   have:=h x ir;show x<=18446744073709551615
   omega⟩ (Po ρ fS)
theorem count_map (l:List Nat) (j:Nat):(l.map Int.ofNat).count (j:Int)=l.count j:=by
 induction l<;>grind
section
variable {l:List Nat} (hl:∀x∈l,x<=12) (hn:l.length<=400)
include hl hn
theorem VX {j:Nat} (a:j<=12):mN (Ii l) j=jO (l.map Int.ofNat) j:=by
 unfold jO;cases j with
 |zero=>rfl
 |succ j=>
  rw[if_neg fy,count_map];show dg (Ii l) (j+1)=_
  grind [Oz,Ks,List.count_le_length]
theorem Ro:∀(n j:Nat) (k:List Nat->Rs),j+n<=13->fsK (Ii l) n j (gw (l.map Int.ofNat) j) k=k ((List.range' j n).map (gw (l.map Int.ofNat)))
 |0,_,_,_=>rfl
 |n+1,j,k,h=>by
  have a:fsK (Ii l) (n+1) j (gw (l.map Int.ofNat) j) k=fN (Nat.mul (Nat.add (gw (l.map Int.ofNat) j) (mN (Ii l) j)) 2) λf'=>fN (Nat.add j 1) λf=>fsK (Ii l) n f f' λr=>k (gw (l.map Int.ofNat) j::r):=rfl
  rw[a,gP,gP,VX hl hn fy];have d:Nat.mul (Nat.add (gw (l.map Int.ofNat) j) (jO (l.map Int.ofNat) j)) 2=gw (l.map Int.ofNat) (j+1):=rfl;rw[d];exact Ro n (j+1) _ fy
theorem PW:∀(n j:Nat) (k:List Nat->Rs),j+n<=13->YS (Ii l) n j k=k ((List.range' j n).map (jO (l.map Int.ofNat)))
 |0,_,_,_=>rfl
 |n+1,j,k,h=>by
  have a:YS (Ii l) (n+1) j k=fN (mN (Ii l) j) λx=>fN (Nat.add j 1) λd=>YS (Ii l) n d λr=>k (x::r):=rfl
  rw[a,gP,gP,VX hl hn fy];exact PW n (j+1) _ fy
end
def XK (l:List Nat):Bool:=List.rec (motive:=λ_=>Bool) true (λx _ a=>an (Nat.ble x 12) a) l
theorem CT:∀{l:List Nat},XK l=true->∀x∈l,x<=12
 |[],_,x,a=>by cases a
 |y::l,h,x,a=>by
  obtain⟨h1,d⟩:=jh (show an (Nat.ble y 12) (XK l)=true from h);rcases hX.1 a with rfl|a
  ·exact iY h1
  ·exact CT d x a
theorem Um (h:∀x∈l,x<=12):u2 (l.map Int.ofNat):=λz a=>by
 grind
def WN (l:List Nat) (k:List Nat->List Nat->Rs):Rs:=jb (XK l) (jb (Nat.ble (RC l) 400) (fN (Ii l) λT=>fsK T 13 0 0 λF=>YS T 13 0 λM=>k F M))
theorem H2 {res:Rs} (d:res≠ .no) {k:List Nat->List Nat->Rs} (h:WN l k=res):(∀x∈l,x<=12)/\l.length<=400/\k ((List.range 13).map (gw (l.map Int.ofNat))) ((List.range 13).map (jO (l.map Int.ofNat)))=res:=by
 obtain⟨h1,h⟩:=fO h d;obtain⟨a,h⟩:=fO h d;have h1:=CT h1;have a:=iY a;rw[wB]at a;rw[gP]at h;have h:fsK (Ii l) 13 0 (gw (l.map Int.ofNat) 0) (λF=>YS (Ii l) 13 0 λM=>k F M)=res:=h;rw[Ro h1 a 13 0 _ fy,PW h1 a 13 0 _ fy]at h;exact⟨h1,a,h⟩
def Rc (l:List Nat) (a:Mem):Rs:=WN l λF M=>uK (F++M) λcs=> .mk (.val (.g cs)) e0 a
def OZ (al:List AV) (a:Mem):Rs:=Xh al λx=>WY a x λl=>Rc l a
theorem L9:sN 425 OZ:=uZ (g:=Rc) (λ_ _=>rfl) λr v B w a e C x h=>by
 obtain⟨h1,y,f⟩:=H2 iI h;obtain⟨m,n⟩:=Eo iI f;injection n with d _ s
 injection d with d
 subst s;refine⟨rfl,fL.mono (wL w v _ x (Um h1) fS) λval w' u=>?_⟩;obtain⟨rfl,t⟩:=u;refine⟨λρ=>?_,t⟩;rw[←d];refine⟨_,Po ρ m,?_⟩;unfold lG D8;rw[pE,sH,sH];rfl
def pF (l:List Nat):Nat:=List.rec (motive:=λ_=>Nat) 0 (λx _ a=>Nat.add x (Nat.mul 65536 a)) l
theorem Ww:∀l:List Nat,pF l=AF l
 |[]=>rfl
 |x::l=>by
  show x+65536*pF l=x+65536*AF l
  rw[Ww l]
def cdK (l:List Nat) (T:Nat) (k:List Nat->Rs):Rs:=List.rec (motive:=λ_=>Nat->(List Nat->Rs)->Rs) (λ_ k=>k []) (λx _ a T k=>Nat.rec (motive:=λ_=>Rs) (a T λr=>k (0::r)) (λ_ _=>fN (dg T x) λc=>fN (Nat.add T (JQ x)) λT=>a T λr=>k (c::r)) x) l T k
theorem JF {zs:List Nat} (a:∀x∈zs,x<=12) (d:∀i,i<=12->gw (zs.map Int.ofNat) i<=60000) (f:zs.length<=400):∀{l pre q:List Nat} {k:List Nat->Rs},zs=pre++l->(∀j,0<j->q.count j=pre.count j)->q.length<=pre.length->cdK l (AF (Ig (gw (zs.map Int.ofNat)) q)) k=k ((List.range' pre.length l.length).map (oy (zs.map Int.ofNat)))
 |[],_,_,_,_,_,_=>rfl
 | x::l,pre,q,k,he,hq,y=>by
  have v:zs[pre.length]? =some x:=by rw[he];simp
  have n:x<=12:=a x (by rw[he];simp);have w:(zs.map Int.ofNat).take pre.length=pre.map Int.ofNat:=by rw[he,pE,Gl ir]
  have hlen:pre.length+l.length+1=zs.length:=by rw[he];simp;omega
  have u:oy (zs.map Int.ofNat) pre.length=if 0<x then gw (zs.map Int.ofNat) x+pre.count x else 0:=by
   unfold oy;rw[qX,v];show(if 0<Int.ofNat x then gw (zs.map Int.ofNat) (Int.ofNat x).toNat+((zs.map Int.ofNat).take pre.length).count (Int.ofNat x)else 0)=_
   rw[w];have:=count_map pre x
   by_cases h0:0<x
   ·grind
   ·grind
  rw[iA,Kx,jm,u];have g:pre.length+1=(pre++[x]).length:=by simp
  cases x with
  |zero=>
   show cdK l (AF (Ig (gw (zs.map Int.ofNat)) q)) (λr=>k (0::r))=_
   rw[JF a d f (pre:=pre++[0]) (q:=q) (by rw[he];simp) fS (by simp;omega),←g];rfl
  |succ m=>
   show fN (dg (AF (Ig (gw (zs.map Int.ofNat)) q)) (m+1)) (λc=>fN (Nat.add (AF (Ig (gw (zs.map Int.ofNat)) q)) (JQ (m+1))) λT=>cdK l T λr=>k (c::r))=_
   have t:∀i,i<=12->gw (zs.map Int.ofNat) i+q.count i<65536:=fS;rw[gP,gP,Ks n t]
   ·have s:Nat.add (AF (Ig (gw (zs.map Int.ofNat)) q)) (JQ (m+1))=AF (Ig (gw (zs.map Int.ofNat)) (q++[m+1])):=(EV _ _ n).symm;rw[s,JF a d f (pre:=pre++[m+1]) (q:=q++[m+1]) (by rw[he];simp) fS (by simp;omega),←g,if_pos (Nat.succ_pos m),hq _ (Nat.succ_pos m)]
def Xj (l:List Nat) (a:Mem):Rs:=jb (FW l) (WN l λF _=>uK F λ_=>fN (pF F) λT=>cdK l T λc=>uK c λcs=>fN (RC l) λn=>qG a 50 cs λid a=> .mk (.val (.v (.lx id 1 0 n n))) e0 a)
def yz (al:List AV) (a:Mem):Rs:=Xh al λx=>WY a x λl=>Xj l a
theorem w4 (R:∀(w:World) (v:Value) (zs:List Int),qZ w v zs->pv zs=true->fL prog f #[v] w λr w'=>∃b,r= .slice (some ⟨b,0,none⟩) zs.length zs.length/\w.heap.size<=b/\UB w' b (p4 zs)/\Ext w w'):sN f yz:=λw0 al U a e' V ρ vs w h N g=>by
 obtain⟨x,v,rfl,h1,B⟩:=Kh iI N h;obtain⟨l,C,D⟩:=KK iI g h1 B;obtain⟨s,E⟩:=fO (show jb (FW l) _=_ from D) iI;rw[Ew]at s;obtain⟨F,G,H⟩:=H2 iI E;obtain⟨u,m⟩:=Eo iI H;rw[gP,Ww]at m;have J:∀i,i<=12->gw (l.map Int.ofNat) i<=60000:=λi hi=>u _ fS
 have e0:(List.range 13).map (gw (l.map Int.ofNat))=Ig (gw (l.map Int.ofNat)) []:=by
  unfold Ig;exact mu
 rw[e0,JF F J G (l:=l) (pre:=[]) (q:=[]) rfl (λ_ _=>rfl) (gJ _)]at m;obtain⟨y,n⟩:=Eo iI m;rw[gP,wB]at n;obtain⟨T,W,k1,k2,k3,k4,k5,k6,k7⟩:=pA iI n;injection k7 with k8 _ Hg
 injection k8 with k8
 subst Hg;refine fL.mono (R w v _ C s) λval w' d=>?_
 obtain⟨b,rfl,O,L,I⟩:=d
 have Q:(p4 (l.map Int.ofNat)).map (Value.int .u64)=((List.range' 0 l.length).map (oy (l.map Int.ofNat))).map λx=>Value.int .u64 (Int.ofNat x):=by
  unfold p4;rw[sH,sH,jF,Hh];rfl
 have M:fU w' b 50 ((((List.range' 0 l.length).map (oy (l.map Int.ofNat))).map λx=>Value.int .u64 (Int.ofNat x))).toArray:=by
  have:=L;unfold UB at this;rwa[Q]at this
 have hu:=Po ρ y
 have K:=g.more (S:=hG) l.length 1 ir k1 k2 fS (λo x t=>by
  rw[k4 o]at t;obtain⟨v,q1,q2⟩:=hu.get o x t
  grind) k5 k6 (fU.bk M) I (λid o p s1 s2=>⟨by have:=g.below id o p s1 s2;omega,λd=>d⟩) (λb d=>d.elim) (.inl (mn g.old.size O))
 refine⟨_,Up.snoc ρ _,?_,K⟩;rw[←k8];refine⟨⟨b,l.length,1⟩,?_,gJ _,by grind [maxLen],by grind⟩
 grind [MR.len]
theorem Mc:sN 402 yz:=w4 Ke
end
section
structure Eb where
 id:Nat
 e:TypeId
 d:Nat
 l:List SV
structure Me where
 n:Nat
 al:List AV
 l0:List Eb
 v:AV
 n1:Nat
 l1:List Eb
def Yt (l:List SV):Nat:=List.rec (motive:=λ_=>Nat) 0 (λ_ _ a=>Nat.add a 1) l
theorem Ju:∀l:List SV,Yt l=l.length
 |[]=>rfl
 |_::l=>by
  show Nat.add (Yt l) 1=_
  rw[Ju l];rfl
def ckE (f:Mem) (x:Eb) (r:Rs):Rs:=MS f x.id λa=>jb (Nat.beq a.e x.e) (Yr a.d a.m 0 (Yt x.l) λl=>jb (lE x.l l) r)
def ckL (d:Mem) (l:List Eb) (r:Rs):Rs:=List.rec (motive:=λ_=>Rs) r (λx _ a=>ckE d x a) l
def seE (x:Eb) (h:Tr Ob) (c:Tr Ob->Rs):Rs:=fN (Yt x.l) λq=>C1 x.d 0 x.l .nil λm=>xB dI x.id ⟨x.e,x.d,q,m⟩ h c
def seL (l:List Eb) (h:Tr Ob) (c:Tr Ob->Rs):Rs:=List.rec (motive:=λ_=>Tr Ob->(Tr Ob->Rs)->Rs) (λh c=>c h) (λx _ a h c=>seE x h λh=>a h c) l h c
def kiL (l:List Eb) (h:Tr Ob) (c:Tr Ob->Rs):Rs:=List.rec (motive:=λ_=>Tr Ob->(Tr Ob->Rs)->Rs) (λh c=>c h) (λx _ a h c=>xB dI x.id ⟨0,0,0,.nil⟩ h λh=>a h c) l h c
def tvE (x y:TV):Bool:=match x,y with
 | .v a,.v b=>sE a b
 | .g a,.g b=>lE a b
 |_,_=>false
def tlE (a:List TV):List TV->Bool:=List.rec (motive:=λ_=>List TV->Bool) (λb=>match b with
 |[]=>true
 |_::_=>false) (λx _ d b=>match b with
 |[]=>false
 |y::r=>an (tvE x y) (d r)) a
def Zj (x y:AV):Bool:=match x,y with
 | .v a,.v b=>sE a b
 | .g a,.g b=>lE a b
 | .t a,.t b=>tlE a b
 | .f g a,.f d b=>an (Nat.beq g d) (lE a b)
 |_,_=>false
def alE (a:List AV):List AV->Bool:=List.rec (motive:=λ_=>List AV->Bool) (λb=>match b with
 |[]=>true
 |_::_=>false) (λx _ d b=>match b with
 |[]=>false
 |y::r=>an (Zj x y) (d r)) a
def meO (m:Me) (al:List AV) (a:Mem):Rs:=jb (alE m.al al) (ckL a m.l0 (kiL m.l0 a.h λh=>seL m.l1 h λh=> .mk (.val m.v) e0 ⟨m.n1,h,[]⟩))
def iW (es:List Me) (al:List AV) (a:Mem):Rs:=List.rec (motive:=λ_=>Rs) .no (λm _ d=>yQ (Nat.beq m.n a.n) (meO m al a) d) es
def SM (m:Me) (r:Rs):Rs:=Rs.rec (motive:=λ_=>Rs) .no (λx _ a=>Ex.rec (motive:=λ_=>Rs) .no (λ_=> .no) (λ_=> .no) .no (λv=>jb (Zj m.v v) (jb (Nat.beq m.n1 a.n) (ckL a m.l1 (.mk .ret e0 a)))) x) r
def lu (a:List (Nat×Fe)) (N f:Nat) (m:Me):Bool:=Rs.rec (motive:=λ_=>Bool) false (λ_ _ _=>true) (seL m.l0 .nil λh=>SM m (run a N f m.al ⟨m.n,h,[]⟩))
theorem XF {x y:TV} (h:tvE x y=true):x=y:=by
 cases x with
 |v a=>
  cases y with
  |v b=>have h:sE a b=true:=h;rw[QB h]
  |g b=>cases h
 |g a=>
  cases y with
  |v b=>cases h
  |g b=>have h:lE a b=true:=h;rw[CB h]
theorem OI:∀{a b:List TV},tlE a b=true->a=b
 |[],[],_=>rfl
 |[],_::_,h=>by cases h
 |_::_,[],h=>by cases h
 |x::a,y::b,h=>by
  obtain⟨h1,d⟩:=jh (show an (tvE x y) (tlE a b)=true from h);rw[XF h1,OI d]
theorem OH {x y:AV} (h:Zj x y=true):x=y:=by
 cases x with
 |v a=>
  cases y with
  |v b=>have h:sE a b=true:=h;rw[QB h]
  |_=>cases h
 |g a=>
  cases y with
  |g b=>have h:lE a b=true:=h;rw[CB h]
  |_=>cases h
 |t a=>
  cases y with
  |t b=>have h:tlE a b=true:=h;rw[OI h]
  |_=>cases h
 | f g a=>
  cases y with
  |f d b=>
   obtain⟨h1,m⟩:=jh (show an (Nat.beq g d) (lE a b)=true from h)
   grind [Nat.eq_of_beq_eq_true,CB]
  |_=>cases h
theorem QD:∀{a b:List AV},alE a b=true->a=b
 |[],[],_=>rfl
 |[],_::_,h=>by cases h
 |_::_,[],h=>by cases h
 |x::a,y::b,h=>by
  obtain⟨h1,d⟩:=jh (show an (Zj x y) (alE a b)=true from h);rw[OH h1,QD d]
def Has (f:Mem) (l:List Eb):Prop:=∀x∈l,∃a,jy f x.id=some a/\a.e=x.e/\∀i,i<x.l.length->hV a.d i a.m=x.l[i]?
def IsB (x:Eb) (id:Nat) (a:Ob):Prop:=x.id=id/\a.e=x.e/\a.n=x.l.length/\∀o,hV a.d o a.m=x.l[o]?
section
variable {res:Rs} (hr:res≠ .no)
include hr
theorem DW {f:Mem} {r:Rs}:∀{l:List Eb},ckL f l r=res->Has f l/\r=res
 |[],h=>⟨λx w=>(by cases w),h⟩
 |x::l,h=>by
  obtain⟨a,h1,h⟩:=oU hr (show MS f x.id (λa=>jb (Nat.beq a.e x.e) (Yr a.d a.m 0 (Yt x.l) λl'=>jb (lE x.l l') (ckL f l r)))=res from h);obtain⟨B,h⟩:=fO h hr;obtain⟨l',s,t,h⟩:=x6 hr h;obtain⟨n,h⟩:=fO h hr;have n:=CB n;obtain⟨u,v⟩:=DW h;rw[Ju]at s t;refine⟨λy g=>?_,v⟩;rcases hX.1 g with rfl|g
  ·simp_all
  ·exact u y g
theorem Ee:∀{l:List Eb} {h:Tr Ob} {c:Tr Ob->Rs},seL l h c=res->∃g,c g=res/\∀id f,hV dI id g=some f->(∃x∈l,IsB x id f)∨((∀x∈l,x.id≠id)/\hV dI id h=some f)
 |[],h,c,a=>⟨h,a,fS⟩
 | x::l,h,c,a=>by
  have a:fN (Yt x.l) (λq=>C1 x.d 0 x.l .nil λm=>xB dI x.id ⟨x.e,x.d,q,m⟩ h λh=>seL l h c)=res:=a;rw[gP,Ju]at a;obtain⟨m,h1,a⟩:=rV hr a;obtain⟨t',s,a⟩:=mS hr a;obtain⟨g,u,v⟩:=Ee a;refine⟨g,u,λid f B=>?_⟩;rcases v id f B with⟨y,C,w⟩|⟨w,n⟩
  ·grind
  ·by_cases t:id=x.id
   ·subst t;rw[s.1]at n;obtain rfl:=jk n;refine .inl ⟨x,jQ,rfl,rfl,rfl,λo=>?_⟩;show hV x.d o m=_
    rw[h1 o,kA]
    grind
   ·refine .inr ⟨λy C=>?_,by rw[←s.2 id t];exact n⟩
    grind
theorem Lb:∀{l:List Eb} {h:Tr Ob} {c:Tr Ob->Rs},kiL l h c=res->∃f,c f=res/\∀id d,hV dI id f=some d->d.m= .nil∨((∀x∈l,x.id≠id)/\hV dI id h=some d)
 |[],h,c,a=>⟨h,a,fS⟩
 | x::l,h,c,a=>by
  obtain⟨t',n,a⟩:=mS hr (show xB dI x.id ⟨0,0,0,.nil⟩ h (λh=>kiL l h c)=res from a);obtain⟨f,u,v⟩:=Lb a;refine⟨f,u,λid d w=>?_⟩;rcases v id d w with s|⟨s,g⟩
  ·exact .inl s
  ·by_cases t:id=x.id
   ·subst t;rw[n.1]at g;obtain rfl:=jk g;exact .inl fx
   ·refine .inr ⟨λy B=>?_,by rw[←n.2 id t];exact g⟩
    grind
end
theorem Rt {K:List (Nat×Fe)} (ht:wV K) {N:Nat} {m:Me} (hm:lu K N f m=true) {w0:Fm} {al:List AV} {H aa:Mem} {a:AV} {e':En} {ρ:Pl} {vs:List Value} {w:World} (av:m.n=H.n) (hq:meO m al H= .mk (.val a) e' aa) (ai:A1 ρ al vs) (D:MR w0 ρ H w):fL prog f vs.toArray w (λval w'=>∃I,Up ρ I/\AR I a val/\MR w0 I aa w'):=by
 obtain⟨h1,h⟩:=fO hq iI;clear hq;have h1:=QD h1;subst h1;obtain⟨U,h⟩:=DW iI h;obtain⟨hk,h,ad⟩:=Lb iI h;obtain⟨hs,h,ae⟩:=Ee iI h;injection h with V _ af
 injection V with V
 subst V;subst af
 have M:(seL m.l0 .nil λh=>SM m (run K N f m.al ⟨m.n,h,[]⟩))≠ .no:=λt=>by
  simp_all [lu]
 obtain⟨G,aw,S⟩:=Ee M (l:=m.l0) (h:= .nil) (c:=λh=>SM m (run K N f m.al ⟨m.n,h,[]⟩)) rfl;have S:∀id s,hV dI id G=some s->∃x∈m.l0,IsB x id s:=by grind [kA]
 have T:SM m (run K N f m.al ⟨m.n,G,[]⟩)≠ .no:=fS
 obtain⟨v1,R,F,an,ap,am,ak⟩:∃v1 R F,run K N f m.al ⟨m.n,G,[]⟩= .mk (.val v1) R F/\m.v=v1/\m.n1=F.n/\Has F m.l1:=by
  generalize hq:run K N f m.al ⟨m.n,G,[]⟩=q at T;cases q with
  |no=>exact absurd rfl T
  | mk x R F=>
   cases x with
   |val v1=>
    have g0:jb (Zj m.v v1) (jb (Nat.beq m.n1 F.n) (ckL F m.l1 (.mk .ret e0 F)))≠ .no:=T;obtain⟨g1,g⟩:=fO rfl g0;obtain⟨g2,g⟩:=fO g g0;obtain⟨g3,_⟩:=DW g0 g
    grind [OH,Nat.eq_of_beq_eq_true]
   |_=>exact absurd rfl T
 subst ap
 have ao:∀id o x,hY ⟨m.n,G,[]⟩ id o=some x->hY H id o=some x/\∃y∈m.l0,y.id=id:=λid o x E=>by
  obtain⟨s,q1,q2⟩:=j9.1 E;obtain⟨y,u,q3,_,_,q5⟩:=S id s q1;obtain⟨Q,q6,_,q8⟩:=U y u
  grind [List.getElem?_eq_some_iff,j9]
 have ar:∀y∈m.l0,∀(i:Nat),i<y.l.length->(hY H y.id i).isSome=true:=λy u i hi=>by
  obtain⟨Q,q6,_,q8⟩:=U y u
  grind [j9,List.getElem?_eq_getElem]
 have X:BB (λb=>∃id o p,(hY ⟨m.n,G,[]⟩ id o).isSome=true/\ρ[id]? =some p/\p.b=b) w:=w0.ok.of D.old λb O=>by
  obtain⟨id,o,p,q1,q2,rfl⟩:=O;obtain⟨x,E⟩:=qQ.1 q1;exact D.xj id o p fS q2
 have ag:MR ⟨λb=>∃id o p,(hY ⟨m.n,G,[]⟩ id o).isSome=true/\ρ[id]? =some p/\p.b=b,w,X⟩ ρ ⟨m.n,G,[]⟩ w:={
  len:=by grind [MR.len]
  gH:=λid s q1 q2=>by
   obtain⟨o,q2⟩:=q2;obtain⟨x,E⟩:=qQ.1 q2;obtain⟨y,u,q3,q4,_,q5⟩:=S id s q1;obtain⟨Q,q6,q7,q8⟩:=U y u;have aq:∀o x,hV s.d o s.m=some x->hV Q.d o Q.m=some x:=fS;obtain⟨p,cs,r1,r2,r3,r4⟩:=D.gH id Q fS fS
   grind
  old:=Fr.refl _ _
  xj:=λid o p q1 q2=> .inr fS
  pre:=λid s q1 o W=>by
   obtain⟨y,u,_,_,q4,q5⟩:=S id s q1
   grind
  apart:=λid B o o' p C M q1 q2 q3 q4=>by
   obtain⟨x,E⟩:=qQ.1 q1;obtain⟨x',ax⟩:=qQ.1 q2;exact D.apart id B o o' p C M fS fS q3 q4
  yI:=TE.nil _ _ _}
 refine fL.mono (wm ht N _ f m.al ⟨m.n,G,[]⟩ _ R F ρ vs w an ai ag) λval w' t=>?_
 obtain⟨I,hu,aj,J⟩:=t;refine⟨I,hu,aj,?_⟩
 have off:∀id o p,(hY H id o).isSome=true->ρ[id]? =some p->(∀x∈m.l0,x.id≠id)->¬∃id o C,(hY ⟨m.n,G,[]⟩ id o).isSome=true/\ρ[id]? =some C/\C.b=p.b:=λid o p q1 q2 q3=>by
  rintro⟨Y,o2,p2,r1,r2,r3⟩;obtain⟨x,E⟩:=qQ.1 r1;obtain⟨r4,y,u,r5⟩:=ao Y o2 x E;exact D.apart Y id o2 o p2 p fS (by rw[r4];rfl) q1 r2 q2 r3
 have Z:∀b,(Fm.mk (λb=>∃id o p,(hY ⟨m.n,G,[]⟩ id o).isSome=true/\ρ[id]? =some p/\p.b=b) w X).may b->w0.may b:=λb O=>by
  rcases O with O|⟨id,o,p,r1,r2,rfl⟩
  ·exact .inl (mn D.old.size O)
  ·obtain⟨x,E⟩:=qQ.1 r1;exact D.xj id o p fS r2
 have cls:∀id s,jy ⟨m.n1,hs,[]⟩ id=some s->(∃o,(hV s.d o s.m).isSome=true)->(∃x∈m.l1,IsB x id s)∨((∀x∈m.l0,x.id≠id)/\jy H id=some s):=λid s q1 q2=>by
  rcases ae id s q1 with t|⟨_,t⟩
  ·exact .inl t
  ·rcases ad id s t with t|t
   ·grind [kA]
   ·exact .inr t
 have one:∀x∈m.l1,∀id s,IsB x id s->∃TC,jy F id=some TC/\TC.e=s.e/\∀o y,hV s.d o s.m=some y->hV TC.d o TC.m=some y:=λx E id s hi=>by
  obtain⟨i1,i2,_,i4⟩:=hi;obtain⟨TC,r1,r2,r3⟩:=ak x E
  grind
 have cell:∀id o,(hY ⟨m.n1,hs,[]⟩ id o).isSome=true->(hY F id o).isSome=true∨((∀x∈m.l0,x.id≠id)/\(hY H id o).isSome=true):=λid o q=>by
  obtain⟨y,u⟩:=qQ.1 q;obtain⟨s,q1,q2⟩:=j9.1 u;rcases cls id s q1 ⟨o,by rw[q2];rfl⟩with⟨x,E,hi⟩|⟨r1,r2⟩<;>grind [j9]
 have old:∀id o p,(hY H id o).isSome=true->I[id]? =some p->ρ[id]? =some p:=λid o p q1 q2=>by
  obtain⟨y,u⟩:=qQ.1 q1;obtain⟨p0,_,_,_,r1,_⟩:=D.at_ u;have:=hu _ _ r1
  grind
 exact {
  len:=J.len.trans am.symm
  gH:=λid s q1 q2=>by
   rcases cls id s q1 q2 with⟨x,E,hi⟩|⟨r1,r2⟩
   ·obtain⟨TC,r1,r2,r3⟩:=one x E id s hi;obtain⟨o,q2⟩:=q2;obtain⟨y,u⟩:=qQ.1 q2;obtain⟨p,cs,s1,s2,s3,s4⟩:=J.gH id TC r1 fS
    grind
   ·obtain⟨p,cs,s1,s2,s3,s4⟩:=D.gH id s r2 q2;obtain⟨o,q2⟩:=q2;obtain⟨y,u⟩:=qQ.1 q2;refine⟨p,cs,hu _ _ s1,s2.fr J.old (off id o p (by grind [j9]) s1 r1),s3,λo y u=>?_⟩;obtain⟨v,t1,t2⟩:=s4 o y u;exact⟨v,t1,t2.up hu⟩
  old:=D.old.trans J.old λj au ah=>by
   rcases Z j (.inr ah)with t|t<;>grind
  xj:=λid o p q1 q2=>by
   rcases cell id o q1 with t|⟨_,t⟩
   ·exact Z _ (J.xj id o p t q2)
   ·exact D.xj id o p t (old id o p t q2)
  pre:=λid s q1 o W=>by
   cases hq:hV s.d o s.m with
   |none=>rfl
   |some y=>
    rcases cls id s q1 fS with⟨x,E,_,_,i3,i4⟩|⟨_,r2⟩
    ·grind
    ·rw[D.pre id s r2 o W]at hq;cases hq
  apart:=λid B o o' p C M q1 q2 q3 q4=>by
   have mix:∀id B o o' p C,(hY F id o).isSome=true->I[id]? =some p->(∀x∈m.l0,x.id≠B)->(hY H B o').isSome=true->I[B]? =some C->p.b≠C.b:=λid B o o' p C r1 r2 r3 r4 r5=>by
    have r6:=old B o' C r4 r5;rcases J.xj id o p r1 r2 with t|t
    ·have t:w.heap.size<=p.b:=t;have:=D.below B o' C r4 r6;omega
    ·intro e;refine off B o' C r4 r6 r3 ?_;rw[←e];exact t
   rcases cell id o q1 with t|⟨g1,t⟩
   ·rcases cell B o' q2 with L|⟨ab,L⟩
    ·exact J.apart id B o o' p C M t L q3 q4
    grind
   ·rcases cell B o' q2 with L|⟨ab,L⟩
    ·grind
    ·exact D.apart id B o o' p C M t L (old id o p t q3) (old B o' C L q4)
  yI:=TE.nil _ _ _}
theorem iM:sN f (iW []):=λw0 al m a e' n ρ vs w h g d=>by cases h
theorem gC {t:List (Nat×Fe)} (ht:wV t) {N:Nat} {m:Me} {es:List Me} (hm:lu t N f m=true) (h0:sN f (iW es)):sN f (iW (m::es)):=λw0 al d a e' u ρ vs w h s g=>by
 have h:yQ (Nat.beq m.n d.n) (meO m al d) (iW es al d)= .mk (.val a) e' u:=h;rw[me]at h;split at h
 ·rename_i v;exact Rt ht hm mu h s g
 ·exact h0 w0 al d a e' u ρ vs w h s g
theorem UH:wV []:=λx a=>by cases a
theorem fz {x:Fe} {l:List (Nat×Fe)} (h:hU f x) (t:wV l):wV ((f,x)::l):=λy a=>by
 rcases hX.1 a with rfl|a
 ·exact h
 ·exact t y a
def nv (k:IntKind) (l:List Nat):List SV:=List.rec (motive:=λ_=>List SV) [] (λx _ a=> .n k x::a) l
end
end
end Go.Proofs.YtecaahegomdbbaaGreatDoor.gp.Rn
