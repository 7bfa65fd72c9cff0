/- Parts of the proof. -/
import Derived.Test.YtecaahegomdbbaaGreatDoorRmB0c
set_option linter.all false
set_option maxRecDepth 99999
set_option maxHeartbeats 0
namespace Go.Proofs.YtecaahegomdbbaaGreatDoor.gr.Rn
open Go.Proofs.Tryz
open Go.RowKit
variable {af:Array Edge} {A:Array Nat} {io:Array li} {cs:Array i6} {drawn:Bool} {e:En} {Y:Env} {w0:Fm} {c:Kt} {hs:ip Nat} {full l:ip li} {vs:ip i6} {g:Mem} {N d f m n:Nat} {x:Pb} {ρ:Pl} {res:Rs} {pos:String} {el t R:i9} {v:i6} {w w':i5}
theorem kD {d:Option Tmp} {t:Nat} (h:d≠some t):look (gr.put Y d v) t=look Y t:=by
 cases d with
 |none=>rfl
 |some k=>
  show look ((k,v)::Y) t=_
  grind [kj]
theorem sP {hs:ip Nat} {H:i5->Prop} {full:Array li} {K:Env->i5->Prop}:∀{l:ip li} {Y:Env} {w:i5},xs prog fD fC hs H full K l Y w->xs prog fD fC hs H full (λd w'=>K d w'/\∀t,(∀o∈l,o.dst≠some t)->look d t=look Y t) l Y w
 |[],_,_,h=>⟨h,λ_ _=>rfl⟩
 | o::l,Y,w,⟨g,f,h1,m⟩=>by
  have step:∀v w',xs prog fD fC hs H full K l (gr.put Y o.dst v) w'->xs prog fD fC hs H full (λd w'=>K d w'/\∀t,(∀o'∈o::l,o'.dst≠some t)->look d t=look Y t) l (gr.put Y o.dst v) w':=λv w' h=>
   hg (by grind [List.mem_cons_of_mem,kD,List.mem_cons_self]) (sP h)
  exact⟨g,f,by grind [qy],fM⟩
theorem Rv {d:Option Tmp} {op:Op} {f:Env} (g:∀x∈op.operands.toList,gh f x=gh Y x) (h:gd Y ⟨d,op,R,pos,af,none⟩=true):gd f ⟨d,op,R,pos,af,none⟩=true:=by
 grind [gd,List.all_eq_true]
def Made (ρ:Pl) (Y:Env) (d:Tmp) (op:Op) (R:i9) (pos:String) (af:Array Edge) (u:Mem) (c:Kt) (res:Rs):Prop:=
 ∃ (el:i9) (l:ip SV) (vs:ip i6) (cs:Array i6) (n z:Nat) (f:Nat->AV) (m:Nat->i6),rb u el l (λid u=>c (f id) u)=res/\j1 ρ l vs/\(∀(o:Nat) v,vs[o]? =some v->cs[o]? =some v)/\n*z=cs.size/\(∀id b (y:Pl),y[id]? =some ⟨b,n,z⟩->AR y (f id) (m b))/\(∀t n' ps,op= .buildSlice t n' ps->elemOf t=some (el,z)/\cs=vs.toArray/\vs.length=n*z/\(f=λid=> .v (.lx id z 0 n n))/\m=λb=> .S b 0 n n)/\
   ∀(g:Env) (w:i5),(∀x∈op.operands.toList,gh g x=gh Y x)->gd g ⟨some d,op,R,pos,af,none⟩=true/\(execOp (ev g) ⟨some d,op,R,pos,af,none⟩).run prog w= .ok (.value (m w.heap.size)) (w.alloc (.cells cs el))
def aaG {y:Cl} {d:Tmp} (u:res≠ .no) (h:(ZV t (zA t)).f y e g c=res):Made ρ Y d (.alloc t) R pos af g c res:=by
 unfold ZV at h;split at h
 .rename_i z x;rw[ru]at h;obtain⟨i,v,hi,C,m⟩:=sa (ρ:=ρ) x;refine⟨t,z,_,v.cells,v.cells.size,1,_,λb=> .P b,h,m,fM,by simp,λid b D n=>⟨_,n,rfl⟩,fM,λB w _=>⟨by simp[gd,Op.operands],?_⟩⟩
  simp_all [execOp,Instr.alloc,zeroValue,typeInfo,newVar,newRow]
 .exact absurd h.symm u
def aa7 {U:Cl} {G:Mem} {d:Tmp} (y:res≠ .no) (J:ER m ρ e Y) {ps:ip (Nat×i7)} (hm:1<=n) (h:(ZJ m n ps (elemOf t)).f U e G c=res):Made ρ Y d (.buildSlice t n ps.toArray) R pos af G c res:=by
 unfold ZJ at h;split at h
 .omega
 split at h
 .rename_i el z K;obtain⟨hu,Q⟩:=iZ K;obtain⟨⟨T,E,D⟩,_⟩:=kl Q;split at h
  .rename_i zs S;split at h
   .exact absurd h.symm y
   .rename_i u;rw[iT,iT,ru]at h;obtain⟨k1,u⟩:=jr u;obtain⟨k2,u⟩:=jr u;obtain⟨k3,k4⟩:=jr u;have k1:=jq k1;have k2:=fy;have k3:=jg k3;have k4:n*z<=16777216:=lX;obtain⟨i,v,hi,qd5,M⟩:=sa (ρ:=ρ) S;rw[E]at hi;obtain rfl:=jb hi;have F:=yF M n;rw[k1]at F;obtain⟨Z,l',B,h1,I,h3,C,g1⟩:=yA y J h F;obtain⟨he,V⟩:=vx h1;have W:0<n*z:=Lq fy fy;have C:B.length=n*z:=by rw[C,py,size_madeCells]
    refine⟨el,l',B,B.toArray,n,z,λid=> .v (.lx id z 0 n n),λb=> .S b 0 n n,g1,h3,fM,by simp[C],λid b aa N=>⟨_,N,gJ _,by have:=SF n k3;grind [maxLen],by simp⟩,fM,λg w X=>?_⟩;have qa5:∀p∈ps,gh g p.2=gh Y p.2:=by grind [Op.operands]
    have L:(ps.map λp=>(p.1,ev g p.2))=ps.map λp=>(p.1,ev Y p.2):=by grind [List.map_congr_left,ev]
    have O:=run_buildSlice (P:=prog) w t el n ((ps.map λp=>(p.1,ev g p.2)).toArray) B.toArray T v hu E qd5 (by rw[D];omega) (by rw[D];omega) (by
     show Instr.fill _ _ (ps.map λp=>(p.1,ev g p.2))=_
     rw[L,he,D]
     exact I)
    refine⟨by grind [Rv,gd,Op.operands,List.all_eq_true],?_⟩;have H:(ps.toArray.map λx=>match x with|(i,x)=>(i,ev g x))=(ps.map λp=>(p.1,ev g p.2)).toArray:=by simp
    simp only[execOp];rw[H];simp[O]
  .exact absurd h.symm y
 .exact absurd h.symm y
def Ez {w:Cl} {u:Mem} {d:Tmp} (g:res≠ .no) {op:Op} (hm:BC op=true) (v:ER m ρ e Y) (h:(JG m op).f w e u c=res):Made ρ Y d op R pos af u c res:=by
 cases op with
 |alloc t=>exact aaG g h
 |buildSlice t n ps=>exact aa7 (ps:=ps.toList) g v (jg hm) h
 |_=>cases hm
theorem Qh {w0:Fm} {m:Nat} {g:Cl} {res:Rs} {k:Kr} (D:res≠ .no) (C:kz w0 g) {hs:ip Nat} {full:ip li}:∀{l:ip li} {e:En} {d:Mem} {ρ:Pl} {Y:Env} {w:i5},ER m ρ e Y->MR w0 ρ d w->(lu m hs full l).f g e d k=res->∃B w' n y x,k n y=res/\Up ρ x/\ER m x n B/\MR w0 x y w'/\∀t,(∀o∈l,o.dst≠some t)->look B t=look Y t
 |[],e,d,ρ,Y,w,u,v,h=>⟨Y,w,e,d,ρ,h,Up.refl ρ,u,v,λ_ _=>rfl⟩
 |o::l,e,d,ρ,Y,w,u,v,h=>by
  have G:(qn m hs full o).f g e d (λe d=>(lu m hs full l).f g e d k)=res:=h;obtain⟨M,O,⟨n,y,Q,h1,H,h3,I,_⟩,N⟩:=vi (sP (LN D C u v G));obtain⟨F,J,E,L,K,g1,g2,g3,g4,g5⟩:=Qh D C h3 I h1;exact⟨F,J,E,L,K,g1,H.trans g2,g3,g4,fM⟩
theorem Aa {d t:Nat}:∀{l:mP},lC t (mG d l)=if d=t then none else lC t l
 |[]=>by
  grind [lC,mG]
 |(k,x)::l=>by
  have f:mG d ((k,x)::l)=Bool.rec (motive:=λ_=>mP) ((k,x)::mG d l) (mG d l) (Nat.beq k d):=rfl;have g:=Aa (d:=d) (t:=t) (l:=l);rw[f];cases hk:Nat.beq k d<;>grind [Nat.beq,Nat.eq_of_beq_eq_true,lC,mG,Nat.beq_refl]
theorem wO {d:Nat}:∀{l:mP},mG d (mG d l)=mG d l
 |[]=>rfl
 | (k,x)::l=>by
  have f:mG d ((k,x)::l)=Bool.rec (motive:=λ_=>mP) ((k,x)::mG d l) (mG d l) (Nat.beq k d):=rfl;rw[f];cases hk:Nat.beq k d with
  |true=>exact wO
  |false=>
   show Bool.rec (motive:=λ_=>mP) ((k,x)::mG d (mG d l)) (mG d (mG d l)) (Nat.beq k d)=_
   rw[hk,wO]
theorem Ca {d d2:Nat}:∀{l:mP},mG d (mG d2 l)=mG d2 (mG d l)
 |[]=>rfl
 | (k,x)::l=>by
  have f:∀(q:Nat) (r:mP),mG q ((k,x)::r)=Bool.rec (motive:=λ_=>mP) ((k,x)::mG q r) (mG q r) (Nat.beq k q):=λ_ _=>rfl
  have m:=Ca (d:=d) (d2:=d2) (l:=l);rw[f,f];cases hk:Nat.beq k d2 with
  |true=>
   cases g:Nat.beq k d<;>simp_all
  |false=>
   show mG d ((k,x)::mG d2 l)=_
   rw[f];cases g:Nat.beq k d<;>simp_all
def AK {d2:Nat}:kr d (kr d2 (kr d (kr d2 e)))=kr d (kr d2 e):=by
 grind [mG,Ca,wO,kr]
theorem EC {t:Nat}:CO m (kr d e) t=if d=t then none else CO m e t:=by
 grind [CO,kr,kept,Aa]
def ER.del (h:ER m ρ e Y):ER m ρ (kr d e) Y:=λt a f=>by
 rw[EC]at f;split at f
 .cases f
 .exact h t a f
theorem NX {w0:Fm} {m:Nat} {n:Cl} {res:Rs} {k:Kr} (E:res≠ .no) (D:kz w0 n) {hs:ip Nat} {full:ip li} {d d2:Nat}:∀{l:ip (li×Bool)} {e:En} {g:Mem} {ρ:Pl} {Y:Env} {w:i5},ER m ρ e Y->MR w0 ρ g w->(nX m hs full d d2 l).f n e g k=res->∃C w' u B y,k u B=res/\Up ρ y/\ER m y u C/\MR w0 y B w'/\∀t,(∀o∈l.map Prod.fst,o.dst≠some t)->look C t=look Y t
 |[],e,g,ρ,Y,w,v,x,h=>⟨Y,w,e,g,ρ,h,Up.refl ρ,v,x,λ_ _=>rfl⟩
 |(o,b)::l,e,g,ρ,Y,w,v,x,h=>by
  have H:(qn m hs full o).f n (kr d (kr d2 e)) g (λe g=>(nX m hs full d d2 l).f n e g k)=res:=h;obtain⟨N,Q,⟨u,B,R,h1,I,h3,J,_⟩,O⟩:=vi (sP (LN E D v.del.del x H));obtain⟨G,K,F,M,L,g1,g2,g3,g4,g5⟩:=NX E D h3 J h1;exact⟨G,K,F,M,L,g1,I.trans g2,g3,g4,fM⟩
theorem jN.nX {w0:Fm} {m:Nat} {u:Cl} {res:Rs} {v:ip Nt} {x:ip Mem} {k:Kr} (t:res≠ .no) (n:kz w0 u) {hs:ip Nat} {full:ip li} {d d2:Nat} (hk:jN w0 m res v x k):∀l:ip (li×Bool),jN w0 m res v x (λe g=>(nX m hs full d d2 l).f u e g k)
 |[]=>hk
 |(o,_)::l=>λe g ρ Y w y B h=>jN.op (o:=o) t n (jN.nX t n hk l) (kr d (kr d2 e)) g ρ Y w y.del.del B h
theorem KN {w0 N:Fm} {m:Nat} {I:Cl} {res:Rs} {K:Mem} {D:Pl} {ws:i5} {B:ip Nt} {J:ip Mem} {k:Kr} (y:res≠ .no) (x:kz w0 I) (hk:jN w0 m res B J k) (H:∀n∈B,B3 K J n) (G:MR N D K ws) {hs0:ip Nat} {full:ip li} {d d2:Nat}:∀{l:ip (li×Bool)} {e:En} {g:Mem} {ρ:Pl} {Y:Env} {w:i5},Up D ρ->ER m ρ e Y->MR w0 ρ g w->(nX m hs0 full d d2 l).f I e g k=res->xs prog fD fC hs0 (HH D B) full.toArray (λF w'=>∃t E C,k t E=res/\Up ρ C/\ER m C t F/\MR w0 C E w') (l.map Prod.fst) Y w
 |[],e,g,ρ,Y,w,hu,u,v,h=>⟨e,g,ρ,h,Up.refl ρ,u,v⟩
 |(o,b)::l,e,g,ρ,Y,w,hu,u,v,h=>by
  have h1:=og y x (jN.nX y x hk l) H G (hs0:=hs0) (full:=full) (l:=[o]) hu ((u.del (d:=d2)).del (d:=d)) v h;rw[jj];refine pb (hg (λF w' M=>?_) h1);obtain⟨t,E,T,k1,k2,k3,k4⟩:=M;exact hg (λR S ⟨L,Q,O,q1,q2,q3,q4⟩=>⟨L,Q,O,q1,k2.trans q2,q3,q4⟩) (KN y x hk H G (hu.trans k2) k3 k4 k1)
def HH.ext {f:Pl} {d:ip Nt} (h:HH f d w) (g:Ext w w'):HH f d w':=λn t p vs v x j u m=>g.cell (h n t p vs v x j u m)
abbrev Fm.out {w0:Fm} {ρ:Pl} {m:Mem} {w d:i5} (h:MR w0 ρ m w) (f:Ext w d):Fm:=⟨λb=>b≠w.heap.size/\w0.may b,d,w0.ok.of (h.old.te f) λ_ g=>g.2⟩
def MR.abG {σ:Mem} {w1:i5} (h:MR w0 ρ σ w) (hE:Ext w w1):MR (Fm.out h hE) ρ σ w1 where
 len:=h.len
 gO:=(h.ext hE).gO
 old:=Fr.refl _ _
 xF:=λid o p hs hp=> .inr ⟨R7 (h.below id o p hs hp),h.xF id o p hs hp⟩
 pre:=h.pre
 apart:=h.apart
 AH:=h.AH.to (Up.refl ρ) (λ_ _ hb=>hb.ext hE) λ_ _ hb hm=> .inr ⟨R7 hb.lt,hm⟩
def MR.back {g:Pl} {x u:Mem} {f:i5} (h:MR w0 ρ x w) (v:Ext w f) (fY:w.heap.size<f.heap.size) (h1:MR (Fm.out h v) g u w'):MR w0 g u w'/\(∀id o p,(ig u id o).isSome=true->g[id]? =some p->p.b≠w.heap.size)/\∀t cs,Bk f w.heap.size t cs->Bk w' w.heap.size t cs:=by
 have hs:=h.old.size;refine⟨⟨h1.len,h1.gO,(h.old.te v).trans h1.old λj y m=>m.2.resolve_left fy,λid o p a b=>?_,h1.pre,h1.apart,h1.AH.to (Up.refl g) (λ_ _ n=>n) λb l _ hm=>?_⟩,λid o p a b=>?_,λt cs n=>n.fr h1.old λm=>m.1 fx⟩
 .rcases h1.xF id o p a b with d|d
  .have d:f.heap.size<=p.b:=d;exact .inl fy
  .exact d.2
 .rcases hm with d|d
  .have d:f.heap.size<=b:=d;exact .inl fy
  .exact d.2
 .rcases h1.xF id o p a b with d|d<;>grind
def yp {u:Cl} (w:res≠ .no) {c:Kr} {d:Tmp} {op:Op} (hm:BC op=true) (h:(qn m hs full ⟨some d,op,R,pos,af,none⟩).f u e g c=res):(JG m op).f u e g (λv g=>(Ig m (some d)).f e v λe=>c ⟨e.vs,e.ts,e.hs,g::e.ms⟩ g)=res:=by
 unfold qn at h;split at h
 .exact absurd h.symm w
 .cases op with
  |alloc t=>exact h
  |buildSlice t n ps=>exact h
  |_=>cases hm
theorem yR {hs:ip Nat} {H:i5->Prop} {full:Array li} {K:Env->i5->Prop}:∀{l1 l2:ip li} {Y:Env} {w:i5},xs prog fD fC hs H full (λf w'=>xs prog fD fC hs H full K l2 f w') l1 Y w->xs prog fD fC hs H full K (l1++l2) Y w
 |[],_,_,_,h=>h
 |_::_,_,_,_,⟨g,n,h1,m⟩=>⟨g,n,λd=>⟨(h1 d).1,qy (λ_ _ t=>yR t) (h1 d).2⟩,λd=>yR (m d)⟩
def early {au:Fm} {H:Cl} {aa:Mem} {K:Pl} {ws:i5} {I:ip Nt} {qa6:ip Mem} {k:Kr} (g:res≠ .no) (D:∀F,kz F H) (hk:∀F,jN F m res I qa6 k) (V:∀n∈I,B3 aa qa6 n) (U:MR au K aa ws) {hs0:ip Nat} {post:ip li} {preB:ip (li×Bool)} {d d2:Tmp} {op:Op} (hm:BC op=true) (ap:cls fD fC op= .w)
  (aD:∀o∈preB.map Prod.fst,o.dst≠some d) (Q:∀o∈preB.map Prod.fst,∀t,Operand.tmp t∈op.operands.toList->o.dst≠some t) (aH:Operand.tmp d∉op.operands.toList) {e:En} {B:Mem} {ρ:Pl} {Y:Env} {w:i5} (hu:Up K ρ) (T:ER m ρ e Y) (G:MR w0 ρ B w) (aG:CO m e d=none) (hH:HH K I w)
  (h:(nX m hs0 full d d2 preB).f H e B (λe B=>(qn m hs0 full ⟨some d,op,R,pos,af,none⟩).f H e B λe B=>(lu m hs0 full post).f H e B k)=res):
  xs prog fD fC hs0 (HH K I) full.toArray (λu w'=>∃M L qd6,k M L=res/\Up ρ qd6/\ER m qd6 M u/\MR w0 qd6 L w') (⟨some d,op,R,pos,af,none⟩::(preB.map Prod.fst++post)) Y w:=by
 have ar:∀{u:Env},(∀t,(∀o∈preB.map Prod.fst,o.dst≠some t)->look u t=look Y t)->∀x∈op.operands.toList,gh Y x=gh u x:=λ{u} O x aq=>by
  cases x with
  |tmp t=>exact(O t fM).symm
  |_=>rfl
 obtain⟨aB,wd,ed,aN,aM,d1,_,d3,_,d5⟩:=NX g (D w0) T G h;obtain⟨el,l,vs,cs,n,z,ay,X,_,_,_,_,_,_,ae⟩:=Ez (d:=d) (R:=R) (pos:=pos) (af:=af) g hm d3 (yp g hm d1);obtain⟨r1,r2⟩:=ae Y w (ar d5);have N:Ext w (w.alloc (.cells cs el)):=Fr.alloc _ _ _;have am:=HH.ext hH N;refine xw r1 ap r2 ?_ am;have an:=G.abG N
 have ak:ER m ρ e (gr.put Y (some d) (X w.heap.size)):=λt a C=>by
  obtain⟨v,q1,q2⟩:=T t a C
  grind [kD]
 refine yR ?_;refine hg (λu w' y=>?_) (sP (KN g (D _) (jN.op g (D _) (jN.YO g (D _) (hk _) post)) V U hu ak an h));obtain⟨⟨M,L,Z,c1,c2,c3,c4⟩,c5⟩:=y;obtain⟨g1,g2,g3⟩:=G.back N iB c4;have O:∀t,t≠d->(∀o∈preB.map Prod.fst,o.dst≠some t)->look u t=look Y t:=by grind [kD]
 have aF:look u d=some (X w.heap.size):=by grind [gr.put,kj]
 obtain⟨ai,l',aK,ag,n',J,az,aI,ab,a2,a3,a4,a5,_,ad⟩:=Ez (d:=d) (R:=R) (pos:=pos) (af:=af) g hm c3 (yp g hm c1)
 obtain⟨_,r3⟩:=ad Y w λx aq=>by
  cases x with
  |tmp t=>exact(O t fM fM).symm
  |_=>rfl
 rw[r2]at r3;injection r3 with W hw
 injection W with W
 have aj:Bk w' w.heap.size ai ag:=g3 _ _ (by rw[hw];exact fW.bk (fW.new _ _ _));obtain⟨aJ,aw,q1,q2,q3,q4,q5,q6,q7⟩:=pB g ab
 have ao:=g1.more (S:=hJ) n' J a4 q1 q2 fM (λo x Q=>by
  rw[q4 o]at Q;obtain⟨v,h3,aC⟩:=a2.get o x Q
  grind) q5 q6 aj (Fr.refl _ _) (λid o p s1 s2=>⟨g2 id o p s1 s2,λy=>y⟩) (λb y=>y.elim) (.inl G.old.size)
 obtain⟨E,t1,_,_,t4⟩:=lJ q7;have aE:(Z++[(⟨w.heap.size,n',J⟩:At)])[L.n]? =some ⟨w.heap.size,n',J⟩:=by rw[<-g1.len];simp
 have al:ER m (Z++[(⟨w.heap.size,n',J⟩:At)]) ⟨E.vs,E.ts,E.hs,aw::E.ms⟩ u:=λt a C=>by
  rcases t4 t a C with⟨y,rfl⟩|⟨y,C⟩
  .grind
  .obtain⟨v,s1,s2⟩:=c3 t a C;exact⟨v,s1,s2.up (Up.snoc _ _)⟩
 refine hg (λaA aL y=>?_) (og g (D _) (hk _) V U ((hu.trans c2).trans (Up.snoc _ _)) al ao t1);obtain⟨ah,ax,av,v1,v2,v3,v4⟩:=y;exact⟨ah,ax,av,v1,(c2.trans (Up.snoc _ _)).trans v2,v3,v4⟩
theorem mO {l:ip li}:∀{is:ip Nat} {os:ip li},tK l is=some os->is.map (l.toArray[·]?)=os.map some
 |[],os,h=>by
  have h:some []=some os:=h
  grind
 | i::is,os,h=>by
  have h:(match l[i]?,tK l is with
   |some o,some r=>some (o::r)
   |_,_=>none)=some os:=h
  split at h
  .rename_i o r h1 d;obtain rfl:=jb h;rw[jj,jj,mO d,po,h1]
  .cases h
def xf (hs:ip Nat) (H:i5->Prop) (full:Array li) (K:Env->i5->Prop) (f:li) (post:ip li):ip (li×Bool)->Env->i5->Prop
 |[],Y,w=>xs prog fD fC hs H full K (f::post) Y w
 |(o,b)::pre,Y,w=>(b=true->H w->xs prog fD fC hs H full K (f::(o::pre.map Prod.fst++post)) Y w)/\xs prog fD fC hs H full (xf hs H full K f post pre) [o] Y w
def Yc {H:i5->Prop} {full:Array li} {K:Env->i5->Prop} (f:qP full N A) {is l:ip Nat} {io:ip li} (h1:qL fD fC hs full A l is []=true) (d:is.map (full[·]?)=io.map some) (h:xs prog fD fC hs H full K io Y w):xg prog fD fC hs H full N K l Y w:=
 (by grind [uq,hg,EE])
theorem zG {hs:ip Nat} {H:i5->Prop} {full:Array li} {K:Env->i5->Prop}:∀{l1 l2:ip li} {Y:Env} {w:i5},xs prog fD fC hs H full K (l1++l2) Y w->xs prog fD fC hs H full (λf w'=>xs prog fD fC hs H full K l2 f w') l1 Y w
 |[],_,_,_,h=>h
 |_::_,_,_,_,⟨g,n,h1,m⟩=>⟨g,n,λd=>⟨(h1 d).1,qy (λ_ _ t=>zG t) (h1 d).2⟩,λd=>zG (m d)⟩
theorem AD {hs:ip Nat} {H:i5->Prop} {full:Array li} {N:Nat} {A:Array Nat} {K:Env->i5->Prop} (n:qP full N A) {f:Nat} {fo:li} (y:full[f]? =some fo) {post:ip Nat} {x:ip li} (I:post.map (full[·]?)=x.map some):∀{pre:ip (Nat×Bool)} {kZ:ip (li×Bool)} {l:ip Nat} {Y:Env} {w:i5},tI hs full A f post l pre=true->pre.map Prod.snd=kZ.map Prod.snd->(pre.map Prod.fst).map (full[·]?)=(kZ.map Prod.fst).map some->xf hs H full K fo x kZ Y w->xg prog fD fC hs H full N K l Y w
 |[],[],l,Y,w,h,_,_,v=>Yc n (show qL fD fC hs full A l (f::post) []=true from h) fM v
 |[],_::_,_,_,_,_,h,_,_=>by cases h
 |_::_,[],_,_,_,_,h,_,_=>by cases h
 | (i,b)::pre,(o,b')::kZ,l,Y,w,h,m,hm,v=>by
  rw[jj,jj,rv]at m;obtain⟨m,D⟩:=m;have m:b=b':=m;subst m;rw[jj,jj,jj,jj,rv]at hm;obtain⟨u,F⟩:=hm;have u:full[i]? =some o:=u;obtain⟨J,L⟩:=v;have one:tI hs full A f post (l.erase i) pre=true->xs prog fD fC hs H full (xg prog fD fC hs H full N K (l.erase i)) [o] Y w:=λhq=>hg (λ_ _ hk=>AD n y I hq D F hk) L
  cases b with
  | false=>
   have h:((vG fD fC hs full A l i||l.filter (lr full l)==[i])&&tI hs full A f post (l.erase i) pre)=true:=h;rw[iU,uf]at h;rcases h.1 with h1|h1
   .grind [Ey]
   .have h1:l.filter (lr full l)=[i]:=by simpa using h1
    refine zd n fM λg o' t d=>?_
    rw[h1,jS]at t;subst t;rw[u]at d;obtain rfl:=jb d;exact one h.2
  | true=>
   have h:((l.filter (lr full l)==[i,f]||l.filter (lr full l)==[f,i])&&(qL fD fC hs full A (l.erase f) (i::pre.map Prod.fst++post) []&&tI hs full A f post (l.erase i) pre))=true:=h;rw[iU,iU,uf]at h;obtain⟨h1,B,h3⟩:=h;have E:∀g,g∈l.filter (lr full l)->g=i\/g=f:=fM
   have Q:i∈l.filter (lr full l):=by
    rcases h1 with h1|h1
    .grind
    .grind
   intro G hc hw a C;refine zd n fM (λg o' t d=>?_) G hc hw a C;rcases E g t with rfl|rfl
   .rw[u]at d;obtain rfl:=jb d;exact one h3
   .rw[y]at d;obtain rfl:=jb d;have M:=J rfl hw;refine pb (K:=xg prog fD fC hs H full N K (l.erase g)) (ii:=[]) ?_;refine hg (λO w' hk=>?_) (zG (l1:=[fo]) M);refine Yc n B (io:=(o::kZ.map Prod.fst)++x) ?_ hk
    grind
def YZ {op:Op} (h:BC op=true):cls fD fC op= .w:=by
 cases op<;>first|rfl|cases h
theorem sA {op:Op} {t:Nat} (h:mQ op t=false):Operand.tmp t∉op.operands.toList:=by grind [mQ,List.any_eq_false,Nat.beq_refl]
theorem kR {op:Op} {o:li} (h:vY d op o=true):o.dst≠some d/\∀t,Operand.tmp t∈op.operands.toList->o.dst≠some t:=by
 grind [vY,Bool.not_eq_true',Bool.or_eq_false_iff,Option.some.inj,Nat.beq_refl,sA]
theorem O8 {w0 Z:Fm} {m:Nat} {t:Cl} {res:Rs} {T:Mem} {L:Pl} {ws:i5} {O:ip Nt} {S:ip Mem} {k:Kr} (y:res≠ .no) (v:∀F,kz F t) (hk:∀F,jN F m res O S k) (J:∀n∈O,B3 T S n) (I:MR Z L T ws) {hs0:ip Nat} {full post:ip li} {d d2:Tmp} {op:Op} {R:i9} {pos:String} {af:Array Edge} (hm:BC op=true) (qd7:mQ op d=false) {K:Env->i5->Prop}
  (N:∀C w' u B Q,k u B=res->Up L Q->ER m Q u C->MR w0 Q B w'->K C w'):∀{preB:ip (li×Bool)} {e:En} {g:Mem} {ρ:Pl} {Y:Env} {w:i5},uC d op preB=true->Up L ρ->ER m ρ e Y->MR w0 ρ g w->
  (nX m hs0 full d d2 preB).f t e g (λe g=>(qn m hs0 full ⟨some d,op,R,pos,af,none⟩).f t e g λe g=>(lu m hs0 full post).f t e g k)=res->xf hs0 (HH L O) full.toArray K ⟨some d,op,R,pos,af,none⟩ post preB Y w
 |[],e,g,ρ,Y,w,D,hu,G,H,h=>by
  refine hg (λC w' E=>?_) (og y (v w0) (hk w0) J I (l:=⟨some d,op,R,pos,af,none⟩::post) hu G H h);obtain⟨u,B,M,k1,k2,k3,k4⟩:=E;exact N _ _ u B M k1 (hu.trans k2) k3 k4
 | (o,b)::preB,e,g,ρ,Y,w,D,hu,G,H,h=>by
  have W:uC d op preB=true:=by
   cases b with
   |true=>
    grind [vY,uC]
   |false=>exact D
  refine⟨λV hH=>?_,?_⟩
  .subst V;have D:(vY d op o&&preB.all (λx=>vY d op x.1)&&uC d op preB)=true:=D;rw[iU,iU]at D;have qa7:∀o'∈((o,true)::preB).map Prod.fst,vY d op o'=true:=fM
   have U:(nX m hs0 full d d2 ((o,true)::preB)).f t (kr d (kr d2 e)) g (λe g=>(qn m hs0 full ⟨some d,op,R,pos,af,none⟩).f t e g λe g=>(lu m hs0 full post).f t e g k)=res:=by
    show(qn m hs0 full o).f t (kr d (kr d2 (kr d (kr d2 e)))) g _=res
    rw[AK];exact h
   refine hg (λC w' E=>?_) (early (preB:=(o,true)::preB) y v hk J I hm (YZ hm) (by grind [kR]) (λo' X=>(kR (qa7 o' X)).2) (sA qd7) hu G.del.del H (by grind [EC]) hH U);obtain⟨u,B,M,k1,k2,k3,k4⟩:=E;exact N _ _ u B M k1 (hu.trans k2) k3 k4
  .refine hg (λC w' E=>?_) (og y (v w0) (jN.nX y (v w0) (jN.op y (v w0) (jN.YO y (v w0) (hk w0) post)) preB) J I (l:=[o]) hu ((G.del (d:=d2)).del (d:=d)) H h);obtain⟨u,B,M,k1,k2,k3,k4⟩:=E;exact O8 y v hk J I hm qd7 N W (hu.trans k2) k3 k4 k1
def Mi {id:Nat} {a:Act} {K:Env->i5->Prop} {Q:Exit->Act->i5->Prop} (hs:ip Nat) (H:i5->Prop) (t:pH N l.toArray=true) (hq:Dk l.toArray (Region.before l.toArray)=true) (hw:H w.drew) (n:Fits N Y a)
  (u:∀f d w',Fits N d f->K d w'->Q .normal f w')
  (h:qP l.toArray N (Region.before l.toArray)->xg prog fD fC hs H l.toArray N K (List.range l.toArray.size) Y w.drew):(Code.region id l.toArray true).wp prog Q a w:=by
 have m:=gr.pR t hq;have g:=h m Dx (λi o v hi=>fM) hw a n;rw[CA]at g;refine wp_region_any mixed ?_;refine u0 (P:=prog) (fD:=fD) (fC:=fC) (hs:=hs) (H:=H) m.a (K:=λf w'=>∃d,Fits N d f/\K d w') fM l.toArray.size _ (List.range l.toArray.size) a _ hw iB iB Dx (λi=>?_) g
 simp_all
def TF {op:Op} (h:bsT op=some t):∃n ps,op= .buildSlice t n ps/\BC op=true:=by
 unfold bsT at h;split at h
 .rename_i t' n ps;split at h
  .rename_i d;obtain rfl:=jb h;exact⟨n,ps,rfl,d⟩
  .cases h
 .cases h
def Pp {op:Op} (h:PM d t op=true):∃u el,op= .convert t u (.tmp d)/\fC u=true/\fC t=false/\elemOf t=some (el,1)/\kindOf el=some .u8:=by
 unfold PM at h
 grind [Bool.not_eq_true',Nat.eq_of_beq_eq_true]
theorem C1 {d2:Nat}:∀{l:ip (li×Bool)},Rj d2 l=true->∀o∈l.map Prod.fst,o.dst≠some d2
 |[],_,o,d=>by cases d
 | x::l,h,o,d=>by
  have h:((match x.1.dst with
   |some t=>!Nat.beq t d2
   |none=>true)&&Rj d2 l)=true:=h
  rw[iU]at h;rw[jj]at d;rcases iu.1 d with rfl|d
  .intro e
   simp_all
  .exact C1 h.2 o d
def xf2 (hs:ip Nat) (H:i5->Prop) (full:Array li) (K:Env->i5->Prop) (f g:li) (post:ip li):ip (li×Bool)->Env->i5->Prop
 |[],Y,w=>xs prog fD fC hs H full K (f::g::post) Y w
 |(o,b)::pre,Y,w=>(b=true->H w->xs prog fD fC hs H full (xf hs H full K g post ((o,b)::pre)) [f] Y w)/\xs prog fD fC hs H full (xf2 hs H full K f g post pre) [o] Y w
theorem Ik {hs:ip Nat} {H:i5->Prop} {full:Array li} {N:Nat} {A:Array Nat} {K:Env->i5->Prop} (t:qP full N A) {f g:Nat} {fo go:li} (y:full[f]? =some fo) (I:full[g]? =some go) {post:ip Nat} {B:ip li} (J:post.map (full[·]?)=B.map some):∀{pre:ip (Nat×Bool)} {kZ:ip (li×Bool)} {l:ip Nat} {Y:Env} {w:i5},xi hs full A f g post l pre=true->pre.map Prod.snd=kZ.map Prod.snd->(pre.map Prod.fst).map (full[·]?)=(kZ.map Prod.fst).map some->xf2 hs H full K fo go B kZ Y w->xg prog fD fC hs H full N K l Y w
 |[],[],l,Y,w,h,_,_,x=>Yc t (show qL fD fC hs full A l (f::g::post) []=true from h) fM x
 |[],_::_,_,_,_,_,h,_,_=>by cases h
 |_::_,[],_,_,_,_,h,_,_=>by cases h
 | (i,b)::pre,(o,b')::kZ,l,Y,w,h,d,hm,x=>by
  have Q:=d;have S:=hm;rw[jj,jj,rv]at d;obtain⟨d,D⟩:=d;have d:b=b':=d;subst d;rw[jj,jj,jj,jj,rv]at hm;obtain⟨v,F⟩:=hm;have v:full[i]? =some o:=v;obtain⟨L,M⟩:=x;have one:xi hs full A f g post (l.erase i) pre=true->xs prog fD fC hs H full (xg prog fD fC hs H full N K (l.erase i)) [o] Y w:=λhq=>hg (λ_ _ hk=>Ik t y I J hq D F hk) M
  cases b with
  | false=>
   have h:((vG fD fC hs full A l i||l.filter (lr full l)==[i])&&xi hs full A f g post (l.erase i) pre)=true:=h;rw[iU,uf]at h;rcases h.1 with h1|h1
   .grind [Ey]
   .have h1:l.filter (lr full l)=[i]:=by simpa using h1
    refine zd t fM λn o' u m=>?_
    rw[h1,jS]at u;subst u;rw[v]at m;obtain rfl:=jb m;exact one h.2
  | true=>
   have h:((l.filter (lr full l)==[i,f]||l.filter (lr full l)==[f,i])&&(tI hs full A g post (l.erase f) ((i,true)::pre)&&xi hs full A f g post (l.erase i) pre))=true:=h;rw[iU,iU,uf]at h;obtain⟨h1,O,h3⟩:=h;have E:∀n,n∈l.filter (lr full l)->n=i\/n=f:=fM
   have R:i∈l.filter (lr full l):=by
    rcases h1 with h1|h1
    .grind
    .grind
   intro G hc hw a C;refine zd t fM (λn o' u m=>?_) G hc hw a C;rcases E n u with rfl|rfl
   .rw[v]at m;obtain rfl:=jb m;exact one h3
   .rw[y]at m;obtain rfl:=jb m;exact hg (by grind [AD]) (L fx hw)
def GV (t u el:i9) (cs:Array i6) (n:Nat) (r:ip Nat):Prop:=(∀c∈r,c<256)/\r.length<=maxLen/\∀(b:Nat) (w:i5),Bk w b el cs->(convert t u (.S b 0 n n)).run prog w= .ok (.U (jI r)) w
def GV.one {u:i9} {r f:ip Nat} (h:GV t u el cs n r) (g:GV t u el cs n f) {b:Nat} (d:Bk w b el cs):su (jI r)=su (jI f):=by
 have h1:=h.2.2 b w d;rw[g.2.2 b w d]at h1
 grind
def Bk.cellAt {b:Nat} (h:Bk w b el cs) {j:Nat} (d:cs[j]? =some v):gc w b j v:=(h.cell j).trans d
def XY {f:Mem} {z id j q:Nat} {k:Nat->ip SV->Rs}:Y9 f z (.v (.lx id d j n q)) k=Jk f id (Nat.mul j d) (Nat.mul n z) λl=>k n l:=rfl
def Xc {J:Cl} (B:res≠ .no) {hs0:ip Nat} {c:Kr} {d d2:Tmp} {u:i9} {id:Nat} {C:Ob} {l:ip SV} (y:fC u=true) (M:fC t=false) (F:elemOf t=some (el,1)) (G:kindOf el=some .u8) (H:n4 hs0 (some d2)=false)
  (qd8:∀a,CO m e d=some a->a= .v (.lx id 1 0 n n)) (aa:jF g id=some C) (Y:∀o,h8 C.d o C.m=l[o]?) (I:j1 ρ l vs) (hlen:vs.length=n)
  (h:(qn m hs0 full ⟨some d2,.convert t u (.tmp d),R,pos,af,none⟩).f J e g c=res):∃r e',GV t u el vs.toArray n r/\c e' g=res/\e'.hs=e.hs/\e'.ms=e.ms/\∀x a,CO m e' x=some a->(some d2=some x/\a= .v (.s r))\/(some d2≠some x/\CO m e x=some a):=by
 have O:cls fD fC (.convert t u (.tmp d))= .r:=by simp[cls,E3 y,y]
 have S:kindOf u=none:=by
  cases hk:kindOf u with
  |none=>rfl
  |some k=>
   have h1:=E3 y
   grind [fD]
 unfold qn at h;split at h
 .exact absurd h.symm B
 .dsimp only at h;rw[O]at h;dsimp only at h;rw[H]at h;have h:(YE m t u (.tmp d)).f J e g (λv W=>(Ig m (some d2)).f e v λe=>c e W)=res:=h;clear H
  have Q:YE m t u (.tmp d)=⟨λ_ e g c=>(iG m (.tmp d)).f e λv=>Y9 g 1 v λ_ l=>byK l λl=>ji (Nat.ble l.length maxLen) (c (.v (.s l)) g)⟩:=by
   unfold YE;simp only[S,y,M,F,G]
  rw[Q]at h;obtain⟨a,h1,E⟩:=qu B (show(QX m d).f e _=res from h);have N:=qd8 a h1;subst N;rw[XY]at E;obtain⟨ab,l',g3,g4,g5,g6⟩:=mn B E;have K:Nat.mul 0 1=0:=rfl;have D:Nat.mul n 1=n:=oR n;rw[K,D]at g5;rw[D]at g4;have Z:l.length=n:=by rw[<-hlen,I.len]
  have T:l'=l:=by
   apply BK;intro i
   by_cases hi:i<n
   .grind [ig]
   .grind
  subst T;obtain⟨r,f1,f2,f3,f4⟩:=yB B g6 I;obtain⟨X,f5⟩:=fS f4 B;obtain⟨e',k1,k3,k4,k2⟩:=lJ f5;refine⟨r,e',⟨f2,lX,λb w L=>?_⟩,k1,k3,k4,k2⟩;obtain⟨V,_⟩:=iZ F
  have U:(jI r).length=n:=by
   have h0:(jI r).length=r.length:=jv _;omega
  have:=run_convert_bytes_back (P:=prog) w t u el ⟨b,0,none⟩ n (jI r) V (iN G) (h7 y) (λi hi=>by
   rw[nE,iM];refine L.cellAt ?_
   grind)
  rw[U]at this;exact this
def ER.Qe (h:ER m ρ e Y):ER m ρ (kr d e) (gr.put Y (some d) v):=λt a f=>by
 rw[EC]at f;split at f
 .cases f
 .rename_i n;obtain⟨u,h1,g⟩:=h t a f
  grind [kD,Option.some.inj]
def xQ:look (gr.put Y (some d) v) d=some v:=by simp[gr.put,kj]
def NF {d:Array i6} {f:i9} (h:w.alloc (.cells cs el)=w.alloc (.cells d f)):cs=d/\el=f:=by
 grind [fW,Array.size,fW.new]
section
variable {w0:Fm} {m:Nat} {ih:Cl} {res:Rs} (hr:res≠ .no) {hs0:ip Nat} {full:ip li} {d:Tmp} {t:i9} {nn:Nat} {ps:Array (Nat×i7)} {R:i9} {pos:String} {af:Array Edge} (hm:BC (.buildSlice t nn ps)=true) {el0:i9} (W9:elemOf t=some (el0,1)) {ρ:Pl} {σ:Mem} {w:i5} (hM:MR w0 ρ σ w) {el:i9} {cs:Array i6} {n:Nat} (SY:Ext w (w.alloc (.cells cs el))) {KR:Env} (NB:(execOp (ev KR) ⟨some d,.buildSlice t nn ps,R,pos,af,none⟩).run prog w= .ok (.value (.S w.heap.size 0 n n)) (w.alloc (.cells cs el)))
include hr hm W9 hM SY NB
theorem QU {u:Pl} {D:Mem} {I:En} {F:Env} (c3:ER m u I F) (c4:MR (Fm.out hM SY) u D w') (ab:look F d=some (.S w.heap.size 0 n n)) (U:∀x∈(Op.buildSlice t nn ps).operands.toList,gh KR x=gh F x) {c:Kr} (c1:(qn m hs0 full ⟨some d,.buildSlice t nn ps,R,pos,af,none⟩).f ih I D c=res):
  ∃l vs G y C,c G y=res/\ER m (u++[(⟨w.heap.size,n,1⟩:At)]) G F/\MR w0 (u++[(⟨w.heap.size,n,1⟩:At)]) y w'/\(∀a,CO m G d=some a->a= .v (.lx D.n 1 0 n n))/\jF y D.n=some C/\(∀o,h8 C.d o C.m=l[o]?)/\j1 u l vs/\cs=vs.toArray/\vs.length=n/\el=el0/\Bk w' w.heap.size el cs:=by
 obtain⟨g1,g2,g3⟩:=hM.back SY iB c4;obtain⟨Y,l',V,X,n',ae,W,ad,L,a2,a3,a4,a5,N,M⟩:=Ez (d:=d) (R:=R) (pos:=pos) (af:=af) hr hm c3 (yp hr hm c1);obtain⟨k1,k2,k3,k4,k5⟩:=N t nn ps rfl;rw[W9]at k1;injection k1 with k1
 injection k1 with k1 k6
 subst k1;subst k6;subst k4;subst k5;obtain⟨_,r3⟩:=M KR w U;rw[NB]at r3;injection r3 with H hw
 injection H with H
 injection H with _ T _
 subst T;obtain⟨Q,qd9⟩:=NF hw;subst Q;subst qd9;have J:Bk w' w.heap.size el cs:=g3 _ _ (fW.bk (fW.new _ _ _));obtain⟨C,y,q1,q2,q3,q4,q5,q6,q7⟩:=pB hr L
 have O:=g1.more (S:=hJ) n 1 a4 q1 q2 fM (λo x K=>by
  rw[q4 o]at K;obtain⟨v,h3,Z⟩:=a2.get o x K
  grind) q5 q6 J (Fr.refl _ _) (λid o p s1 s2=>⟨g2 id o p s1 s2,λg=>g⟩) (λb g=>g.elim) (.inl hM.old.size)
 obtain⟨E,t1,_,_,t4⟩:=lJ q7;have aa:(u++[(⟨w.heap.size,n,1⟩:At)])[D.n]? =some ⟨w.heap.size,n,1⟩:=by rw[<-g1.len];simp
 refine⟨l',V,⟨E.vs,E.ts,E.hs,y::E.ms⟩,y,C,t1,λx a B=>?_,O,λa B=>?_,q5,q4,a2,k2,fy,rfl,J⟩
 .rcases t4 x a B with⟨g,rfl⟩|⟨g,B⟩
  .grind
  .obtain⟨v,s1,s2⟩:=c3 x a B;exact⟨v,s1,s2.up (Up.snoc _ _)⟩
 .rcases t4 d a B with⟨_,rfl⟩|⟨g,_⟩<;>grind
variable (ud:∀F,kz F ih) {w00:Fm} {VD:Pl} {σ0:Mem} {ws:i5} {nh:ip Nt} {nm:ip Mem} {k:Kr} (hk:∀F,jN F m res nh nm k) (Zo:∀n∈nh,B3 σ0 nm n) (Zu:MR w00 VD σ0 ws) {post:ip li} {d2:Tmp} {u:i9} {X4:i9} {KD:String} {YY:Array Edge} (hS:fC u=true) (hSt:fC t=false) (hk8:kindOf el0=some .u8) (QG:n4 hs0 (some d2)=false) {K:Env->i5->Prop}
 (hK:∀FX w' e1 OE ρ',k e1 OE=res->Up VD ρ'->ER m ρ' e1 FX->MR w0 ρ' OE w'->K FX w')
include ud hk Zo Zu hS hSt hk8 QG hK
theorem qM {preB:ip (li×Bool)} (D:∀o∈preB.map Prod.fst,vY d (.buildSlice t nn ps) o=true) (W:∀o∈preB.map Prod.fst,o.dst≠some d2) {OE:Mem} {C:Pl} {r:ip Nat} (hu:Up VD C) (O:ER m C e Y) (c4:MR (Fm.out hM SY) C OE w') (S:look Y d=some (.slice (some ⟨w.heap.size,0,none⟩) n n)) (U:look Y d2=some (.string (su (jI r)))) (X:∀x∈(Op.buildSlice t nn ps).operands.toList,gh KR x=gh Y x) (qe0:GV t u el cs n r)
  (h:(nX m hs0 full d d2 preB).f ih e OE (λe σ=>(qn m hs0 full ⟨some d,.buildSlice t nn ps,R,pos,af,none⟩).f ih e σ λe σ=>(qn m hs0 full ⟨some d2,.convert t u (.tmp d),X4,KD,YY,none⟩).f ih e σ λe σ=>(lu m hs0 full post).f ih e σ k)=res):
  xs prog fD fC hs0 (HH VD nh) full.toArray K (preB.map Prod.fst++post) Y w':=by
 refine yR ?_;refine hg (λFX aj g=>?_) (sP (KN hr (ud _) (jN.op hr (ud _) (jN.op hr (ud _) (jN.YO hr (ud _) (hk _) post))) Zo Zu hu O c4 h));obtain⟨⟨ad,al,G,H,I,J,L⟩,M⟩:=g;have y:∀x,(∀o∈preB.map Prod.fst,o.dst≠some x)->look FX x=look Y x:=M;have T:=(y d λo B=>(kR (D o B)).1).trans S;have V:=(y d2 W).trans U
 have qa8:∀x∈(Op.buildSlice t nn ps).operands.toList,gh KR x=gh FX x:=λx F=>(X x F).trans (by
  cases x with
  |tmp q=>exact(y q λo B=>(kR (D o B)).2 q F).symm
  |_=>rfl)
 obtain⟨l,vs,ae,am,ah,c1,c2,c3,c5,c6,c7,c8,c9,tU,yE,Cd⟩:=QU hr hm W9 hM SY NB J L T qa8 H;obtain⟨ai,e4,q1,q2,q3,q4,q5⟩:=Xc hr hS hSt W9 hk8 QG c5 c6 c7 c8 tU c1;subst yE;subst c9;have Z:=q1.one qe0 Cd
 have Q:ER m (G++[(⟨w.heap.size,n,1⟩:At)]) e4 FX:=λx a v=>by
  rcases q5 x a v with⟨g,rfl⟩|⟨_,v⟩
  .injection g with g
   subst g;exact⟨_,V,by rw[<-Z];exact⟨rfl,q1.1,q1.2.1⟩⟩
  .exact c2 x a v
 have E:Up VD (G++[(⟨w.heap.size,n,1⟩:At)]):=(hu.trans I).trans (Up.snoc _ _);refine hg (λag ak g=>?_) (og hr (ud _) (hk _) Zo Zu E Q c3 q2);obtain⟨N,ab,aa,v1,v2,v3,v4⟩:=g;exact hK _ _ N ab aa v1 (E.trans v2) v3 v4
theorem stB (aa:mQ (.buildSlice t nn ps) d2=false) (qa9:d≠d2):∀{preB:ip (li×Bool)} (_:∀o∈preB.map Prod.fst,vY d (.buildSlice t nn ps) o=true) (_:∀o∈preB.map Prod.fst,o.dst≠some d2) {e:En} {OE:Mem} {g:Pl} {Y:Env} {w':i5} (_:Up VD g) (_:ER m g e Y) (_:MR (Fm.out hM SY) g OE w') (_:look Y d=some (.S w.heap.size 0 n n)) (_:∀x∈(Op.buildSlice t nn ps).operands.toList,gh KR x=gh Y x)
  (_:(nX m hs0 full d d2 preB).f ih e OE (λe σ=>(qn m hs0 full ⟨some d,.buildSlice t nn ps,R,pos,af,none⟩).f ih e σ λe σ=>(qn m hs0 full ⟨some d2,.convert t u (.tmp d),X4,KD,YY,none⟩).f ih e σ λe σ=>(lu m hs0 full post).f ih e σ k)=res),
  xf hs0 (HH VD nh) full.toArray K ⟨some d2,.convert t u (.tmp d),X4,KD,YY,none⟩ post preB Y w'
 |[],F,G,e,OE,g,Y,w',hu,v,c4,E,y,h=>by
  obtain⟨l,vs,Q,ae,ab,c1,c2,c3,_⟩:=QU hr hm W9 hM SY NB v c4 E y (show(qn m hs0 full ⟨some d,.buildSlice t nn ps,R,pos,af,none⟩).f ih e OE (λe σ=>(qn m hs0 full ⟨some d2,.convert t u (.tmp d),X4,KD,YY,none⟩).f ih e σ λe σ=>(lu m hs0 full post).f ih e σ k)=res from h);have H:Up VD (g++[(⟨w.heap.size,n,1⟩:At)]):=hu.trans (Up.snoc _ _);refine hg (λai al D=>?_) (og hr (ud _) (hk _) Zo Zu (l:=⟨some d2,.convert t u (.tmp d),X4,KD,YY,none⟩::post) H c2 c3 c1);obtain⟨qe1,ag,ad,v1,v2,v3,v4⟩:=D;exact hK _ _ qe1 ag ad v1 (H.trans v2) v3 v4
 | (o,b)::preB,F,G,e,OE,g,Y,w',hu,v,c4,E,y,h=>by
  refine⟨λ_ _=>?_,?_⟩
  ·
   obtain⟨S,wd,ed,ap,an,d1,_,d3,d4,d5⟩:=NX hr (ud _) v c4 h
   have Z:∀x∈(Op.buildSlice t nn ps).operands.toList,gh KR x=gh S x:=λx B=>(y x B).trans (by
    cases x with
    |tmp q=>exact(d5 q (by grind [kR])).symm
    |_=>rfl)
   obtain⟨l,vs,Q,ae,ab,I,_,_,a5,M,N,O,a9,J,L,_⟩:=QU hr hm W9 hM SY NB d3 d4 (by grind [kR]) Z d1;obtain⟨r,_,C,_⟩:=Xc hr hS hSt W9 hk8 QG a5 M N O J I;rw[<-L,<-a9]at C;obtain⟨_,_,g3⟩:=hM.back SY iB c4;have U:Bk w' w.heap.size el cs:=g3 _ _ (fW.bk (fW.new _ _ _))
   have V:ja fD fC hs0 ⟨some d2,.convert t u (.tmp d),X4,KD,YY,none⟩= .r:=by
    have:cls fD fC (.convert t u (.tmp d))= .r:=by simp[cls,E3 hS,hS]
    simp[ja,this,QG]
   have W:gh Y (.tmp d)=some (.S w.heap.size 0 n n):=E;refine gW fx (by grind [gd,Op.operands]) ?_;rw[V];refine⟨.U (jI r),by simp[execOp,fR W,C.2.2 _ _ U],?_⟩
   have T:(nX m hs0 full d d2 ((o,b)::preB)).f ih (kr d (kr d2 e)) OE (λe σ=>(qn m hs0 full ⟨some d,.buildSlice t nn ps,R,pos,af,none⟩).f ih e σ λe σ=>(qn m hs0 full ⟨some d2,.convert t u (.tmp d),X4,KD,YY,none⟩).f ih e σ λe σ=>(lu m hs0 full post).f ih e σ k)=res:=by
    show(qn m hs0 full o).f ih (kr d (kr d2 (kr d (kr d2 e)))) OE _=res
    rw[AK];exact h
   refine qM hr hm W9 hM SY NB ud hk Zo Zu hS hSt hk8 QG hK (preB:=(o,b)::preB) F G (e:=kr d (kr d2 e)) hu v.Qe.del c4 ?_ xQ (λx B=>(y x B).trans ?_) C T
   .grind [kD,Option.some.inj]
   .cases x with
    |tmp q=>exact(kD (by grind [sA,Option.some.inj])).symm
    |_=>rfl
  .refine hg (λFX ak D=>?_) (sP (og hr (ud _) (jN.nX hr (ud _) (jN.op hr (ud _) (jN.op hr (ud _) (jN.YO hr (ud _) (hk _) post))) preB) Zo Zu (l:=[o]) hu ((v.del (d:=d2)).del (d:=d)) c4 h));obtain⟨⟨ah,ao,am,k1,k2,k3,k4⟩,k5⟩:=D;have aj:o∈((o,b)::preB).map Prod.fst:=by rw[jj];exact j0
   have X:∀x,o.dst≠some x->look FX x=look Y x:=fM
   exact stB aa qa9 (preB:=preB) fM fM (hu.trans k2) k3 k4 (by grind [kR]) (λx B=>(y x B).trans (by
    cases x with
    |tmp q=>exact(X q (by grind [kR])).symm
    |_=>rfl)) k1
end
theorem Mr {w0 au:Fm} {m:Nat} {B:Cl} {res:Rs} {al:Mem} {qe2:Pl} {ws:i5} {V:ip Nt} {aj:ip Mem} {k:Kr} (y:res≠ .no) (C:∀F,kz F B) (hk:∀F,jN F m res V aj k) (N:∀n∈V,B3 al aj n) (M:MR au qe2 al ws) {hs0:ip Nat} {full post:ip li} {d d2:Tmp} {t u X:i9} {v:Nat} {ps:Array (Nat×i7)} {R Q:i9} {pos O:String} {af J:Array Edge} (hm:BC (.buildSlice t v ps)=true) (ab:elemOf t=some (X,1)) (Z:fC u=true) (aa:fC t=false) (ae:kindOf X=some .u8) (ag:n4 hs0 (some d2)=false) (ar:mQ (.buildSlice t v ps) d=false) (ai:mQ (.buildSlice t v ps) d2=false) (ah:d≠d2) {K:Env->i5->Prop}
  (T:∀L w' E I W,k E I=res->Up qe2 W->ER m W E L->MR w0 W I w'->K L w'):∀{preB:ip (li×Bool)} {e:En} {g:Mem} {ρ:Pl} {Y:Env} {w:i5},uC d (.buildSlice t v ps) preB=true->(∀o∈preB.map Prod.fst,o.dst≠some d2)->Up qe2 ρ->ER m ρ e Y->MR w0 ρ g w->
  (nX m hs0 full d d2 preB).f B e g (λe g=>(qn m hs0 full ⟨some d,.buildSlice t v ps,R,pos,af,none⟩).f B e g λe g=>(qn m hs0 full ⟨some d2,.convert t u (.tmp d),Q,O,J,none⟩).f B e g λe g=>(lu m hs0 full post).f B e g k)=res->xf2 hs0 (HH qe2 V) full.toArray K ⟨some d,.buildSlice t v ps,R,pos,af,none⟩ ⟨some d2,.convert t u (.tmp d),Q,O,J,none⟩ post preB Y w
 |[],e,g,ρ,Y,w,H,ad,hu,G,D,h=>by
  refine hg (λL w' U=>?_) (og y (C w0) (hk w0) N M (l:=⟨some d,.buildSlice t v ps,R,pos,af,none⟩::⟨some d2,.convert t u (.tmp d),Q,O,J,none⟩::post) hu G D h);obtain⟨E,I,ak,k1,k2,k3,k4⟩:=U;exact T _ _ E I ak k1 (hu.trans k2) k3 k4
 | (o,b)::preB,e,g,ρ,Y,w,H,ad,hu,G,D,h=>by
  have ap:uC d (.buildSlice t v ps) preB=true:=by
   cases b with
   |true=>
    grind [vY,uC]
   |false=>exact H
  refine⟨λao hH=>?_,?_⟩
  .subst ao;have H:(vY d (.buildSlice t v ps) o&&preB.all (λx=>vY d (.buildSlice t v ps) x.1)&&uC d (.buildSlice t v ps) preB)=true:=H;rw[iU,iU]at H;have aq:∀o'∈((o,true)::preB).map Prod.fst,vY d (.buildSlice t v ps) o'=true:=fM
   have qb0:(nX m hs0 full d d2 ((o,true)::preB)).f B (kr d (kr d2 e)) g (λe g=>(qn m hs0 full ⟨some d,.buildSlice t v ps,R,pos,af,none⟩).f B e g λe g=>(qn m hs0 full ⟨some d2,.convert t u (.tmp d),Q,O,J,none⟩).f B e g λe g=>(lu m hs0 full post).f B e g k)=res:=by
    show(qn m hs0 full o).f B (kr d (kr d2 (kr d (kr d2 e)))) g _=res
    rw[AK];exact h
   obtain⟨aw,wd,ed,aB,aA,d1,_,d3,_,d5⟩:=NX y (C w0) G.del.del D qb0;obtain⟨el,l,vs,cs,n,z,av,az,_,_,_,_,_,an,am⟩:=Ez (d:=d) (R:=R) (pos:=pos) (af:=af) y hm d3 (yp y hm d1);obtain⟨_,_,_,_,k5⟩:=an t v ps rfl;subst k5
   obtain⟨r1,r2⟩:=am Y w (λx ay=>by
    cases x with
    |tmp q=>exact(d5 q (by grind [kR])).symm
    |_=>rfl)
   have S:Ext w (w.alloc (.cells cs el)):=Fr.alloc _ _ _;refine xw r1 fx r2 ?_ (HH.ext hH S)
   exact stB y hm ab D S r2 C hk N M Z aa ae ag T ai ah (preB:=(o,true)::preB) aq ad hu ((G.del (d:=d2)).Qe (d:=d)) (D.abG S) xQ (λx ax=>by
    cases x with
    |tmp q=>exact(kD (by grind [sA,Option.some.inj])).symm
    |_=>rfl) qb0
  .refine hg (λL w' U=>?_) (og y (C w0) (jN.nX y (C w0) (jN.op y (C w0) (jN.op y (C w0) (jN.YO y (C w0) (hk w0) post))) preB) N M (l:=[o]) hu ((G.del (d:=d2)).del (d:=d)) D h);obtain⟨E,I,ak,k1,k2,k3,k4⟩:=U;exact Mr y C hk N M hm ab Z aa ae ag ar ai ah T ap fM (hu.trans k2) k3 k4 k1
def St (w0:Fm) (N m:Nat) (ρ:Pl) (e:En) (f:Mem) (a:Act) (w:i5):Prop:=∃d Y,Up ρ d/\ER m d e Y/\MR w0 d f w/\Fits N Y a
def exM:Ex->Exit->Prop
 | .pz,.normal=>True
 | .ext n,.exit k=>n=k
 | .P8 n,.goto k=>n=k
 | .ret,.ret=>True
 |_,_=>False
def OO (w0:Fm) (N m:Nat) (ρ:Pl) (res:Rs):Exit->Act->i5->Prop:=λex a w=>∃x e d,res= .mk x e d/\exM x ex/\St w0 N m ρ e d a w
def Q0 (h:Yv hs io A f=some x):∃d op R pos af pre post kZ g,io[f]? =some ⟨some d,op,R,pos,af,none⟩/\BC op=true/\mQ op d=false/\tI hs io A f post (List.range io.size) pre=true/\tK io.toList (pre.map Prod.fst)=some kZ/\tK io.toList post=some g/\uC d op (kZ.zip (pre.map Prod.snd))=true/\x=⟨hs,kZ.zip (pre.map Prod.snd),d,d,⟨some d,op,R,pos,af,none⟩,g⟩:=by
 grind [Yv,Bool.not_eq_true',Option.some.inj]
def Pv (h:YL hs io A f=some x):∃d d2 op m t R pos af w v n g pre post kZ u,io[f]? =some ⟨some d,op,R,pos,af,none⟩/\bsT op=some t/\mQ op d=false/\io[g]? =some ⟨some d2,m,w,v,n,none⟩/\PM d t m=true/\d≠d2/\mQ op d2=false/\n4 x.hs (some d2)=false/\xi x.hs io A f g post (List.range io.size) pre=true/\tK io.toList (pre.map Prod.fst)=some kZ/\tK io.toList post=some u/\uC d op (kZ.zip (pre.map Prod.snd))=true/\Rj d2 (kZ.zip (pre.map Prod.snd))=true/\x=⟨x.hs,kZ.zip (pre.map Prod.snd),d,d2,⟨some d,op,R,pos,af,none⟩,⟨some d2,m,w,v,n,none⟩::u⟩:=by
 unfold YL at h;split at h
 .rename_i d op R pos af B;split at h
  .rename_i t y C;split at h<;>grind [Bool.not_eq_true',Option.some.inj,Nat.beq_refl]
  .cases h
 .cases h
theorem CS {io:Array li} {x:Pb}:∀{l:ip Nat},Fv io l≠ .FV x
 |[],h=>by cases h
 | q::l,h=>by
  have d:cN q (λk=>(match px fD fC (Oc io k) k io (Region.before io)with
   |true=>Rk.held k
   |false=>Fv io l:Rk))=Rk.FV x:=h
  rw[iT]at d;split at d
  .cases d
  .exact CS d
theorem DO {io:Array li} {x:Pb}:∀{l:ip Nat},Fv io l≠ .free x
 |[],h=>by cases h
 | q::l,h=>by
  have d:cN q (λk=>(match px fD fC (Oc io k) k io (Region.before io)with
   |true=>Rk.held k
   |false=>Fv io l:Rk))=Rk.free x:=h
  rw[iT]at d;split at d
  .cases d
  .exact DO d
theorem qg {α β:Type} {f:α->Option β} {b:β}:∀{l:ip α},l.findSome? f=some b->∃a,f a=some b
 |[],h=>by cases h
 |a::l,h=>by
  rw[List.findSome?_cons]at h;split at h
  .grind
  .exact qg h
theorem zip_fst {α β:Type}:∀{l:ip α} {m:ip β},l.length=m.length->(l.zip m).map Prod.fst=l
 |[],_,_=>rfl
 |_::_,[],h=>by cases h
 |a::l,b::m,h=>by rw[WD,jj,zip_fst (by simpa using h)]
theorem E9 {α β:Type}:∀{l:ip α} {m:ip β},l.length=m.length->(l.zip m).map Prod.snd=m
 |[],[],_=>rfl
 |[],_::_,h=>by cases h
 |_::_,[],h=>by cases h
 |a::l,b::m,h=>by rw[WD,jj,E9 (by simpa using h)]
def RI {z y:Rk} {q:Bool} {g f:Option Pb} (m:(match z with
 | .bad=>match q with
  | true=>match g with
   |some x=>Rk.FV x
   |none=>match f with
    |some x=>Rk.free x
    |none=> .bad
  |false=> .bad
 |x=>x)=y) (h1:∀x,y≠ .free x) (d:y≠ .bad) (h3:∀x,y≠ .FV x):z=y:=by
 grind
section
variable {w0:Fm} {N m:Nat} {ih:Cl} {res:Rs} (hr:res≠ .no)
include hr
theorem Lm {g:En->Mem->Rs} {r:Rs} (h:sqK g r=res):∃x e f,r= .mk x e f/\((x= .pz/\g e f=res)\/(x≠ .pz/\res= .mk x e f)):=by
 cases r with
 |no=>exact absurd h.symm hr
 |mk x e f=>
  refine⟨x,e,f,rfl,?_⟩;cases x with
  |pz=>exact .inl ⟨rfl,h⟩
  |ext n=>exact .inr ⟨λd=>(by cases d),h.symm⟩
  |P8 n=>exact .inr ⟨λd=>(by cases d),h.symm⟩
  |ret=>exact .inr ⟨λd=>(by cases d),h.symm⟩
  |val v=>exact absurd h.symm hr
omit hr in
theorem Fp (d:ER m ρ e Y):ER m ρ ⟨e.vs,[],[],[]⟩ Y:=λt x f=>by
 refine d t x ?_
 grind [CO,kept,lC]
theorem S9 (D:kz w0 ih) {id:Nat} {d:Mem} {a:Act} (g:pR N drawn io= .text) (h:(tS m io.toList io.toList).f ih ⟨e.vs,[],[],[]⟩ d (λe d=> .mk .pz e d)=res) (J:St w0 N m ρ e d a w):(Code.region id io drawn).wp prog (OO w0 N m ρ res) a w:=by
 obtain⟨O,Y,hu,I,y,C⟩:=J;have x:=Fp I
 have B:∀u w',(∃n,Fits N n u/\UH w0 m O [] [] (λe d=> .mk .pz e d) res n w')->OO w0 N m ρ res .normal u w':=λu w' K=>by
  obtain⟨n,h1,e',Q,M,E,_,_,h3,F,G⟩:=K;exact⟨.pz,e',Q,E.symm,trivial,M,n,hu.trans h3,F,G,h1⟩
 unfold pR at g;split at g
 .cases g
 .rename_i t;obtain⟨hs,t⟩:=mT t;split at g
  .refine tC (fD:=fD) (fC:=fC) (hs:=[]) (H:=gr.gS) trivial B ?_;have v:=HX hr D (full:=io.toList) x y h;have:=pP (N:=N) (full:=io) hs t io.toList 0 Y a w iB trivial C (by simpa using v);simpa[xE]using this
  .split at g
   .rename_i L;refine vo (fD:=fD) (fC:=fC) (hs:=[]) (H:=gr.gS) mixed trivial L B ?_;have v:=HX hr D (full:=io.toList) x (y.ext (Fr.drew _ w)) h;have:=pP (N:=N) (full:=io) hs t io.toList 0 Y a w.drew iB trivial C (by simpa using v);simpa[xE]using this
   grind [absurd,Ch]
theorem QD (v:kz w0 ih) {id:Nat} {x:Mem} {a:Act} {k:Nat} (g:pR N drawn l.toArray= .held k) (h:(lu m (Oc l.toArray k) l (l.take k)).f ih ⟨e.vs,[],[],[]⟩ x (Jo m ih l (l.drop k) x)=res) (Q:St w0 N m ρ e x a w):(Code.region id l.toArray drawn).wp prog (OO w0 N m ρ res) a w:=by
 obtain⟨t,Y,hu,M,O,S⟩:=Q;have B:=Fp M;have n:=O.ext (Fr.drew _ w);obtain⟨u,ae,D,_,_,C⟩:=J0 hr v B n h;unfold pR at g;split at g
 .cases g
 .rename_i R;split at g
  .cases g
  .split at g
   .cases g
   .have T:=F2 (RI g (λ_ d=>by cases d) (λd=>by cases d) (λ_ d=>by cases d));refine wp_cut (K:=UH w0 m t u.hs u.ms Ew res) k (Oc l.toArray k) (HH t u.hs) R T (yu n (Up.refl t) j0 C) S (λqb1 y w' h1 d=>?_) ?_
    .obtain⟨e',V,F,I,_,_,h3,J,L⟩:=d;exact⟨.pz,e',V,I.symm,trivial,F,y,hu.trans h3,J,L,h1⟩
    .refine hg (λy w' d=>?_) (YD hr v D C n (full:=l) (l2:=l.drop k) (l:=l.take k) (Up.refl t) B n h);obtain⟨Z,ad,F,k1,k2,k3,k4⟩:=d;have E:=HX hr v (full:=l) k3 k4 k1;obtain⟨_,_,G,W,_,q1,q2,q3,_⟩:=AS E;have q1:Rs.mk .pz G W=res:=q1;rw[D]at q1;injection q1 with _ q4 _
     refine yz (λaa ab d=>?_) E;obtain⟨H,X,U,r1,r2,r3,r4,r5,r6⟩:=d;exact⟨H,X,U,r1,by rw[r2,<-q2,q4],by rw[r3,<-q3,q4],k2.trans r4,r5,r6⟩
theorem PO (D:∀F,kz F ih) {id:Nat} {v:Mem} {a:Act} (g:pR N drawn l.toArray= .free x) (h:(nX m x.hs l x.d x.d2 x.pre).f ih ⟨e.vs,[],[],[]⟩ v (λe' n=>(qn m x.hs l x.f).f ih e' n λe' n=>(lu m x.hs l x.post).f ih e' n (Jo m ih l [] v))=res) (aa:St w0 N m ρ e v a w):(Code.region id l.toArray drawn).wp prog (OO w0 N m ρ res) a w:=by
 obtain⟨E,Y,hu,X,qb2,ae⟩:=aa;have G:=Fp X;have C:=qb2.ext (Fr.drew _ w);obtain⟨_,_,ak,ar,ao,L,_,a3,a4,_⟩:=NX hr (D w0) G C h;obtain⟨_,_,al,au,ap,M,_,O,Q,_⟩:=Qh (l:=[x.f]) hr (D w0) a3 a4 L;obtain⟨_,_,u,J,aq,c1,_,c3,c4,_⟩:=Qh hr (D w0) O Q M;obtain⟨c5,H⟩:=qp hr (show Js v u.ms u.hs ((tS m l []).f ih u J Ew)=res from c1);have am:res= .mk .pz u J:=c5.symm;unfold pR at g;split at g
 .cases g
 .rename_i ad;split at g
  .cases g
  .split at g
   .cases g
   .split at g
    .split at g
     .rename_i ab;split at g
      .cases g
      split at g
      .rename_i x' ah;injection g with g
       subst g;obtain⟨f,ag⟩:=qg ah;obtain⟨d,op,R,pos,af,pre,post,kZ,an,h1,qe3,h3,S,T,U,V,W⟩:=Q0 ag;subst W
       have hlen:kZ.length=(pre.map Prod.snd).length:=by
        have:=congrArg List.length (mO T);simpa using this.symm
       refine Mi (K:=λB w'=>∃e' n t,res= .mk .pz e' n/\Up E t/\ER m t e' B/\MR w0 t n w') (Oc l.toArray l.toArray.size) (HH E u.hs) ad ab (yu C (Up.refl E) j0 H) ae (λaj B w' q1 ai=>?_) (λZ=>?_)
       .obtain⟨e',n,t,g1,g2,g3,g4⟩:=ai;exact⟨.pz,e',n,g1,trivial,t,B,hu.trans g2,g3,g4,q1⟩
       .refine AD Z h1 (mO U) S (kZ:=kZ.zip (pre.map Prod.snd)) (E9 hlen).symm (by grind [zip_fst,mO]) ?_;refine O8 hr D (by grind [jN.fin]) H C qe3 h3 (λB w' y I t g1 g2 g3 g4=>?_) V (Up.refl E) G C h;obtain⟨g5,_⟩:=qp hr (show Js v y.ms y.hs ((tS m l []).f ih y I Ew)=res from g1);exact⟨y,I,t,g5.symm,g2,g3,g4⟩
      .cases g
     .cases g
    grind [absurd,DO]
theorem Qr (H:∀F,kz F ih) {id:Nat} {C:Mem} {a:Act} (n:pR N drawn l.toArray= .FV x) (h:(nX m x.hs l x.d x.d2 x.pre).f ih ⟨e.vs,[],[],[]⟩ C (λe' v=>(qn m x.hs l x.f).f ih e' v λe' v=>(lu m x.hs l x.post).f ih e' v (Jo m ih l [] C))=res) (al:St w0 N m ρ e C a w):(Code.region id l.toArray drawn).wp prog (OO w0 N m ρ res) a w:=by
 obtain⟨I,Y,hu,ai,aj,ao⟩:=al;have J:=Fp ai;have G:=aj.ext (Fr.drew _ w);obtain⟨_,_,aD,aS,aP,Q,_,a3,a4,_⟩:=NX hr (H w0) J G h;obtain⟨_,_,aE,aT,aQ,qe4,_,S,T,_⟩:=Qh (l:=[x.f]) hr (H w0) a3 a4 Q;obtain⟨_,_,B,O,aR,c1,_,c3,c4,_⟩:=Qh hr (H w0) S T qe4;obtain⟨c5,L⟩:=qp hr (show Js C B.ms B.hs ((tS m l []).f ih B O Ew)=res from c1);have aF:res= .mk .pz B O:=c5.symm;unfold pR at n;split at n
 .cases n
 .rename_i an;split at n
  .cases n
  .split at n
   .cases n
   .split at n
    .split at n
     .rename_i am;split at n
      .rename_i x' aq;injection n with n
       subst n;obtain⟨f,ap⟩:=qg aq;obtain⟨d,d2,op,aH,t,R,pos,af,aK,aJ,aC,g,pre,post,kZ,aI,h1,Z,h3,av,aw,ax,ay,az,aa,ab,ad,ae,ag,ah⟩:=Pv ap;obtain⟨aG,ps,rfl,hm⟩:=TF Z;obtain⟨u,el,rfl,aA,z2,z3,z4⟩:=Pp aw;obtain⟨au,aO,aL,aM,xf,aN⟩:=x';injection ah with _ U V W X qb3
       subst U;subst V;subst W;subst X;subst qb3
       have hlen:kZ.length=(pre.map Prod.snd).length:=by
        have:=congrArg List.length (mO ab);simpa using this.symm
       refine Mi (K:=λE w'=>∃e' v y,res= .mk .pz e' v/\Up I y/\ER m y e' E/\MR w0 y v w') au (HH I B.hs) an am (yu G (Up.refl I) j0 L) ao (λaB E w' q1 ar=>?_) (λak=>?_)
       .obtain⟨e',v,y,g1,g2,g3,g4⟩:=ar;exact⟨.pz,e',v,g1,trivial,y,E,hu.trans g2,g3,g4,q1⟩
       .refine Ik ak h1 av (mO ad) aa (kZ:=kZ.zip (pre.map Prod.snd)) (E9 hlen).symm (by grind [zip_fst,mO]) ?_;refine Mr hr H (by grind [jN.fin]) L G hm z3 aA z2 z4 az h3 ay ax (λE w' D M y g1 g2 g3 g4=>?_) ae (C1 ag) (Up.refl I) J G h;obtain⟨g5,_⟩:=qp hr (show Js C D.ms D.hs ((tS m l []).f ih D M Ew)=res from g1);exact⟨D,M,y,g5.symm,g2,g3,g4⟩
      grind
     .cases n
    grind [absurd,CS]
end
def DH {x:Ex} {ex:Exit} (h:exM x ex) (d:x≠ .pz) (Q:Exit->Act->i5->Prop) (K:Act->i5->Prop) (a:Act) (w:i5) (hq:Q ex a w):Exit.then K Q ex a w:=by
 cases ex with
 |normal=>cases x<;>first|exact absurd rfl d|cases h
 |_=>exact hq
theorem Mf {w0:Fm} {N m:Nat} {g:Cl} (R:∀F,kz F g):∀(d:Nat) (c:Code) (n:Nat) (e:En) (t:Mem) (res:Rs) (ρ:Pl) (a:Act) (w:i5),res≠ .no->(mI N m d c).f g n e t=res->St w0 N m ρ e t a w->c.wp prog (OO w0 N m ρ res) a w
 |0,c,n,e,t,res,ρ,a,w,G,h,H=>absurd h.symm G
 | d +1,c,n,e,t,res,ρ,a,w,G,h,H=>by
  have O:=Mf (w0:=w0) (N:=N) (m:=m) R d;cases c with
  |skip=>exact wp_skip ⟨.pz,e,t,h.symm,trivial,H⟩
  |label l=>exact wp_label ⟨.pz,e,t,h.symm,trivial,H⟩
  |exit id=>exact wp_exit ⟨.ext id,e,t,h.symm,rfl,H⟩
  |goto l=>exact wp_goto ⟨.P8 l,e,t,h.symm,rfl,H⟩
  |ret=>exact wp_ret ⟨.ret,e,t,h.symm,trivial,H⟩
  | region id io drawn=>
   have C:(match pR N drawn io with
    | .text=>(⟨λg _ e t=>(tS m io.toList io.toList).f g ⟨e.vs,[],[],[]⟩ t λe t=> .mk .pz e t⟩:Wc)
    | .held k=>⟨λg _ e t=>(lu m (Oc io k) io.toList (io.toList.take k)).f g ⟨e.vs,[],[],[]⟩ t λe' J=>Js t e'.ms e'.hs ((tS m io.toList (io.toList.drop k)).f g e' J λe t=> .mk .pz e t)⟩
    | .free x=>⟨λg _ e t=>(nX m x.hs io.toList x.d x.d2 x.pre).f g ⟨e.vs,[],[],[]⟩ t λe' J=>(qn m x.hs io.toList x.f).f g e' J λe' J=>(lu m x.hs io.toList x.post).f g e' J λe' J=>Js t e'.ms e'.hs (.mk .pz e' J)⟩
    | .FV x=>⟨λg _ e t=>(nX m x.hs io.toList x.d x.d2 x.pre).f g ⟨e.vs,[],[],[]⟩ t λe' J=>(qn m x.hs io.toList x.f).f g e' J λe' J=>(lu m x.hs io.toList x.post).f g e' J λe' J=>Js t e'.ms e'.hs (.mk .pz e' J)⟩
    | .bad=>noC).f g n e t=res:=h
   split at C
   .rename_i M;exact S9 G (R w0) M C H
   .rename_i M;exact QD (l:=io.toList) G (R w0) M C H
   .rename_i M;exact PO (l:=io.toList) G R M C H
   .rename_i M;exact Qr (l:=io.toList) G R M C H
   .exact absurd C.symm G
  | seq x y=>
   have C:sqK ((mI N m d y).f g n) ((mI N m d x).f g n e t)=res:=h;obtain⟨al,K,L,h1,D⟩:=Lm G C;refine wp_seq (wp_mono (O x n e t _ ρ a w (by rw[h1];exact λI=>by cases I) fx H) ?_);rintro ex Q w' ⟨E,u,B,k1,k2,k3⟩;rw[h1]at k1;injection k1 with q1 q2 q3
   subst q1;subst q2;subst q3;rcases D with⟨rfl,D⟩|⟨Z,D⟩
   .cases ex with
    |normal=>exact O y n K L res ρ Q w' G D k3
    |_=>cases k2
   .exact DH k2 Z _ _ _ _ ⟨al,K,L,D,k2,k3⟩
  |cond q x y=>
   have C:(iG m q).f e (λq=>WU q ((mI N m d x).f g n e t) ((mI N m d y).f g n e t))=res:=h;have ag:=H;obtain⟨ar,Y,hu,af,an,U⟩:=ag;obtain⟨b,v,h1,D,h3⟩:=gq G af C;rcases uE G h3 with⟨rfl,ae⟩|⟨rfl,ae⟩
   .have D:v= .bool true:=D;subst D;exact wp_cond_true (U.eval h1) fM
   .have D:v= .bool false:=D;subst D;exact wp_cond_false (U.eval h1) fM
  | block id b=>
   have C:blK id ((mI N m d b).f g n e t)=res:=h;generalize ak:(mI N m d b).f g n e t=r0 at C;have qb4:r0≠ .no:=λI=>by rw[I]at C;exact G C.symm
   refine wp_block (wp_mono (O b n e t r0 ρ a w qb4 ak H) ?_);rintro ex Q w' ⟨E,u,B,k1,k2,k3⟩;subst k1;cases E with
   |pz=>
    cases ex with
    |normal=>exact⟨.pz,u,B,C.symm,trivial,k3⟩
    |_=>cases k2
   | ext j=>
    cases ex with
    |exit k=>
     have k2:j=k:=k2;subst k2;have T:zB (Nat.beq j id) (.mk .pz u B) (.mk (.ext j) u B)=res:=C;rw[mc]at T;show(if j=id then _ else _)
     split at T
     .rename_i ah;rw[if_pos lX];exact⟨.pz,u,B,T.symm,trivial,k3⟩
     .rename_i ah;rw[if_neg lX];exact⟨.ext j,u,B,T.symm,rfl,k3⟩
    |_=>cases k2
   |P8 j=>
    cases ex with
    |goto k=>exact⟨.P8 j,u,B,C.symm,k2,k3⟩
    |_=>cases k2
   |ret=>
    cases ex with
    |ret=>exact⟨.ret,u,B,C.symm,trivial,k3⟩
    |_=>cases k2
   |val v=>cases k2
  | loop b=>
   have C:lpK ((mI N m d b).f g n) n e t=res:=h;refine wp_loop_ghost (λk a w=>∃e t,lpK ((mI N m d b).f g n) k e t=res/\St w0 N m ρ e t a w) n ⟨e,t,C,H⟩ ?_;rintro k W aa ⟨K,L,h1,X⟩;cases k with
   |zero=>exact absurd h1.symm G
   | succ k=>
    have ad:sqK (lpK ((mI N m d b).f g n) k) ((mI N m d b).f g n K L)=res:=h1;obtain⟨E,u,B,D,h3⟩:=Lm G ad;refine wp_mono (O b n K L _ ρ W aa (by rw[D];exact λI=>by cases I) fx X) ?_;rintro ex Q w' ⟨aq,am,au,k1,k2,k3⟩;rw[D]at k1;injection k1 with q1 q2 q3
    subst q1;subst q2;subst q3;rcases h3 with⟨rfl,h3⟩|⟨Z,h3⟩
    .cases ex with
     |normal=>exact⟨k,zb k,u,B,h3,k3⟩
     |_=>cases k2
    .exact DH k2 Z _ _ _ _ ⟨E,u,B,h3,k2,k3⟩
  | scope b=>
   have C:Jf (λl=>(O3 (mI N m d) b l).f g n) n ((mI N m d b).f g n e t)=res:=h
   have fin:∀(k:Nat) (E:Ex) (u:En) (B:Mem),Jf (λl=>(O3 (mI N m d) b l).f g n) k (.mk E u B)=res->(∃l V,E= .P8 l/\k=V+1/\Jf (λl=>(O3 (mI N m d) b l).f g n) V ((O3 (mI N m d) b l).f g n u B)=res)\/(res= .mk E u B/\∀l,E≠ .P8 l):=λk E u B I=>by
    cases k with
    |zero=>exact absurd I.symm G
    |succ k=>
     cases E with
     |P8 l=>exact .inl ⟨l,k,rfl,rfl,I⟩
     |pz=>exact .inr ⟨I.symm,λl S=>by cases S⟩
     |ext j=>exact .inr ⟨I.symm,λl S=>by cases S⟩
     |ret=>exact .inr ⟨I.symm,λl S=>by cases S⟩
     |val v=>exact absurd I.symm G
   have ao:∀k,Jf (λl=>(O3 (mI N m d) b l).f g n) k .no≠res:=λk I=>by
    cases k<;>exact G I.symm
   have ai:∀l k u B,Jf (λl=>(O3 (mI N m d) b l).f g n) k ((O3 (mI N m d) b l).f g n u B)=res->∃ii,findLabel b l=some ii/\(O3 (mI N m d) b l).f g n u B=(mI N m d ii).f g n u B/\(mI N m d ii).f g n u B≠ .no:=by grind [findLabel,O3,mI,absurd]
   refine qS (λl k a w=>∃u B,Jf (λl=>(O3 (mI N m d) b l).f g n) k ((O3 (mI N m d) b l).f g n u B)=res/\St w0 N m ρ u B a w) ?_ ?_ ?_
   .grind
   .have qb4:(mI N m d b).f g n e t≠ .no:=fM;refine wp_mono (O b n e t _ ρ a w qb4 fx H) ?_;rintro ex Q w' ⟨E,u,B,k1,k2,k3⟩;rw[k1]at C;rcases fin n E u B C with⟨l,V,rfl,_,D⟩|⟨D,h3⟩
    .cases ex with
     |goto j=>
      have k2:l=j:=k2
      grind
     |_=>cases k2
    .cases ex with
     |goto j=>cases E<;>first|grind|cases k2
     |_=>exact⟨E,u,B,D,k2,k3⟩
   .rintro k l ii W aa U ⟨K,L,h1,X⟩;obtain⟨ap,ab,he,aj⟩:=ai l k K L h1;rw[U]at ab;obtain rfl:=jb ab;rw[he]at h1;refine wp_mono (O ii n K L _ ρ W aa aj fx X) ?_;rintro ex Q w' ⟨E,u,B,k1,k2,k3⟩;rw[k1]at h1;rcases fin k E u B h1 with⟨l',V,rfl,hk,D⟩|⟨D,h3⟩
    .cases ex with
     |goto j=>
      have k2:l'=j:=k2
      grind
     |_=>cases k2
    .cases ex with
     |goto j=>cases E<;>first|grind|cases k2
     |_=>exact⟨E,u,B,D,k2,k3⟩
  |_=>exact absurd h.symm G
theorem FZ:∀(l:ip i6) (n t:Nat) (v:i6),n<=t->l[t-n]? =some v->look (rI n l) t=some v
 |[],n,t,v,_,h=>by cases h
 | x::l,n,t,v,d,h=>by
  show look ((n,x)::rI (n+1) l) t=some v
  rw[kj]
  by_cases ht:n=t
  .grind
  .rw[if_neg ht];refine FZ l (n+1) t v fy ?_
   grind
def Bz.get {l:ip AV} (h:Bz ρ l vs):∀(i:Nat) x,l[i]? =some x->∃v,vs[i]? =some v/\AR ρ x v:=by
 induction h<;>grind
theorem Bz.len {l:ip AV} (h:Bz ρ l vs):vs.length=l.length:=by
 induction h<;>grind
noncomputable def paL (m:Nat) (l:ip AV) (k:Nat) (c:mP->Rs):Rs:=List.rec (motive:=λ_=>Nat->(mP->Rs)->Rs) (λ_ c=>c []) (λx _ d k c=>fN (Nat.add k 1) λf=>d f λr=>zB (kept m k) (c ((k,x)::r)) (c r)) l k c
theorem Lr {m:Nat} {res:Rs}:∀{l:ip AV} {k:Nat} {c:mP->Rs},paL m l k c=res->∃Y,c Y=res/\∀t a,lC t Y=some a->k<=t/\l[t-k]? =some a
 |[],k,c,h=>⟨[],h,λt a f=>by cases f⟩
 |x::l,k,c,h=>by
  have d:fN (Nat.add k 1) (λg=>paL m l g λr=>zB (kept m k) (c ((k,x)::r)) (c r))=res:=h;rw[gV]at d;obtain⟨Y,h1,n⟩:=Lr d
  grind [mc,lC,Option.some.inj]
def XP {p:Addr} (ht:one t=true) (hc:w.cell? p=some v):(loadVar t p).run prog w= .ok v w:=by
 simp_all [loadVar,load,Sem.run,C5]
section
variable {w0:Fm} {m:Nat} {ih:Cl} {e:En} {σ:Mem} {res:Rs} {ρ:Pl} {Y:Env} {w:i5} (hr:res≠ .no)
include hr
theorem T7 {a:Act} (K:ER m ρ e Y) (O:MR w0 ρ σ w) (Q:Fits N Y a) {r:ResultVar} {k:AV->Rs} (h:(reW m r).f e σ k=res):∃x v,AR ρ x v/\k x=res/\((match r with
  | .tmp t=>pure (a.tmps.getD t undef)
  | .cell p t=>do loadVar t (<-asAddr (a.tmps.getD p undef)):Sem i6)).run prog w= .ok v w:=by
 cases r with
 |tmp t=>
  obtain⟨x,h1,d⟩:=qu hr (show(QX m t).f e k=res from h);obtain⟨v,h3,C⟩:=K t x h1;refine⟨x,v,C,d,?_⟩;have:=Q.2.2 t v h3
  simp_all
 | cell p t=>
  have R:∀id o,∀B,look Y p=some B->SR ρ (.p id o) B->∃q,ρ[id]? =some q/\(asAddr (a.tmps.getD p undef)).run prog w= .ok ⟨q.b,o,none⟩ w:=λid o B h1 d=>by
   obtain⟨q,h3,rfl⟩:=d;refine⟨q,h3,?_⟩;have:=Q.2.2 p _ h1;simp[pq,this,asAddr]
  unfold reW at h;simp only at h;split at h
  .rename_i U;obtain⟨x,h1,d⟩:=qu hr h;obtain⟨B,h3,C⟩:=K p x h1;obtain⟨id,o,e0,H⟩:=lI hr d;obtain⟨S,L,I⟩:=pa hr H;obtain⟨y,M,J⟩:=mm hr I;subst e0;obtain⟨q,E,F⟩:=R id o B h3 C;obtain⟨v,D,G,_⟩:=O.cell (kd.2 ⟨S,L,M⟩) E;refine⟨.v y,v,G.2,J,?_⟩;show((asAddr (a.tmps.getD p undef))>>=λq=>loadVar t q).run prog w=_
   rw[tg,F,tp];exact XP U D
  .split at h
   .rename_i n T;rw[iT]at h;obtain⟨x,h1,d⟩:=qu hr h;obtain⟨B,h3,C⟩:=K p x h1;obtain⟨id,o,e0,H⟩:=lI hr d;obtain⟨S,l,L,I,M,J⟩:=mn hr H;subst e0;obtain⟨q,E,F⟩:=R id o B h3 C;obtain⟨vs,D,G⟩:=O.cells E (l:=l) (o:=o) fM;refine⟨.g l,.agg vs.toArray,⟨vs,D,rfl⟩,J,?_⟩;have:=Kl (w:=w) (t:=t) (b:=q.b) (o:=o) (cs:=vs) (by rw[D.len,I];exact T) (λj u hu=>(G j u hu).1);show((asAddr (a.tmps.getD p undef))>>=λq=>loadVar t q).run prog w=_
    rw[tg,F,tp];exact this
   grind
def YA (tmps:Array i6):ResultVar->Sem i6:=λ
 | .tmp t=>pure (tmps.getD t undef)
 | .cell p t=>do loadVar t (<-asAddr (tmps.getD p undef))
theorem GW {N:Nat} {a:Act} (d:ER m ρ e Y) (g:MR w0 ρ σ w) (n:Fits N Y a):∀{l:ip ResultVar} {k:ip AV->Rs},(TJ m l).f e σ k=res->∃al vs,Bz ρ al vs/\k al=res/\(l.mapM (YA a.tmps)).run prog w= .ok vs w
 |[],k,h=>⟨[],[],.nil,h,by simp⟩
 | r::l,k,h=>by
  obtain⟨x,v,h1,t,h3⟩:=T7 hr d g n (show(reW m r).f e σ (λv=>(TJ m l).f e σ λl=>k (v::l))=res from h);obtain⟨al,vs,u,y,C⟩:=GW d g n t;refine⟨x::al,v::vs,.cons h1 u,y,?_⟩
  have B:(YA a.tmps r).run prog w= .ok v w:=by
   cases r<;>exact h3
  simp_all
theorem E6:∀{l:ip AV} {vs:ip i6} {k:ip TV->Rs},tuK l k=res->Bz ρ l vs->∃d,Tq ρ d vs/\k d=res
 |[],vs,k,h,n=>by
  cases n;exact⟨[],.nil,h⟩
 | x::l,vs,k,h,n=>by
  cases n with
  |cons h1 t=>
   rcases uD hr (show S0 x (λx=>tuK l λl=>k (.v x::l)) (λg=>tuK l λl=>k (.g g::l))=res from h)with⟨y,rfl,h3⟩|⟨g,rfl,h3⟩
   .obtain⟨d,f,m⟩:=E6 h3 t;exact⟨.v y::d,.cons h1 f,m⟩
   .obtain⟨d,f,m⟩:=E6 h3 t;exact⟨.g g::d,.cons h1 f,m⟩
theorem Ux {l:ip AV} (h:toK e σ l=res) (n:Bz ρ l vs):∃v,res= .mk (.val v) e σ/\AR ρ v (if h:vs.toArray.size=1 then vs.toArray[0]else .tuple vs.toArray):=by
 cases n with
 |nil=>exact⟨.t [],h.symm,[],.nil,rfl⟩
 | cons h1 d=>
  rename_i x v l vs;cases d with
  |nil=>exact⟨x,h.symm,h1⟩
  |cons h3 f=>
   rename_i y w l vs;obtain⟨u,g,m⟩:=E6 hr (show tuK (x::y::l) (λl=> .mk (.val (.t l)) e σ)=res from h) (.cons h1 (.cons h3 f));exact⟨.t u,m.symm,_,g,by simp⟩
theorem Vd {ws:Wrs} {r:Rs} (h:reK ws r=res):∃x e σ,r= .mk x e σ/\(x= .pz\/x= .ret)/\ws.f e σ (λl=>toK e σ l)=res:=by
 cases r with
 |no=>exact absurd h.symm hr
 |mk x e σ=>
  cases x with
  |pz=>exact⟨_,_,_,rfl,.inl rfl,h⟩
  |ret=>exact⟨_,_,_,rfl,.inr rfl,h⟩
  |_=>exact absurd h.symm hr
end
theorem zn:∀{l:ip (Nat×Fe)} {f:Nat} {x:Fe},UP l f=some x->(f,x)∈l
 |[],f,x,h=>by cases h
 | y::l,f,x,h=>by
  have d:(match Nat.beq y.1 f with
   |true=>some y.2
   |false=>UP l f)=some x:=h
  split at d
  .grind [Option.some.inj,Nat.eq_of_beq_eq_true,List.mem_cons_self]
  .exact qC _ (zn d)
def td (f:Nat) (o:ip AV->Mem->Rs):Prop:=∀(w0:Fm) al g v e' m (ρ:Pl) vs w,o al g= .mk (.val v) e' m->Bz ρ al vs->MR w0 ρ g w->fQ prog f vs.toArray w (λval w'=>∃d,Up ρ d/\AR d v val/\MR w0 d m w')
def h9 (f:Nat):Fe->Prop
 | .code fn _=>prog.funcs[f]? =some fn
 | .qe o=>td f o
def xv (d:ip (Nat×Fe)):Prop:=∀x∈d,h9 x.1 x.2
theorem wy {y:ip (Nat×Fe)} (ht:xv y):∀n (w0:Fm),kz w0 (run y n)
 |0,w0=>λf al C v e' g ρ vs w h _ _=>by cases h
 | n +1,w0=>λf al C v e' g ρ vs w h J I=>by
  have L:=wy ht n;have D:(Rs.mk (.val v) e' g)≠ .no:=λW=>by cases W
  have d:(fnW (UP y f)).f (run y n) al C= .mk (.val v) e' g:=h;unfold fnW at d;split at d
  .rename_i fn m E;have U:prog.funcs[f]? =some fn:=ht _ (zn E);split at d
   .rename_i c hc;obtain⟨hlen,h1⟩:=fS d D;have hlen:=jg hlen;have M:paL m al 0 (λl=>reK (TJ m fn.results.toList) ((mI fn.ntmps m 1000 c).f (run y n) lF ⟨l,[],[],[]⟩ C))= .mk (.val v) e' g:=h1;obtain⟨l,O,h3⟩:=Lr M;obtain⟨x,H,ah,Q,R,S⟩:=Vd D O
    have T:ER m ρ ⟨l,[],[],[]⟩ (rI 0 vs):=λt a F=>by
     unfold CO at F;cases hk:kept m t with
     |true=>
      rw[hk]at F;obtain⟨_,g2⟩:=h3 t a F;obtain⟨ae,g3,g4⟩:=J.get _ a g2
      grind [FZ]
     |false=>
      grind [lC]
    have V:Fits fn.ntmps (rI 0 vs) {tmps:=vs.toArray++Array.replicate (fn.ntmps-vs.toArray.size) undef,defers:=[]}:=
     DG (by grind [Bz.len]) λt v X=>by simpa using(rz vs 0 t v X).2
    refine calls_of_wp U hc (wp_mono (Mf (N:=fn.ntmps) (m:=m) L 1000 c lF ⟨l,[],[],[]⟩ C _ ρ _ w fM fx ⟨ρ,_,Up.refl ρ,T,I,V⟩) ?_);rintro ex u w' ⟨ag,ab,ai,k1,k2,B,ad,k3,k4,k5,k6⟩;rw[Q]at k1;injection k1 with q1 q2 q3
    subst q1;subst q2;subst q3;obtain⟨aa,G,r1,r2,r3⟩:=GW D k4 k5 k6 S;obtain⟨af,r4,r5⟩:=Ux D r2 r1;injection r4 with q1 q2 q3
    injection q1 with q1
    subst q1;subst q2;subst q3
    have Z:(results fn u.tmps).run prog w'= .ok (if h:G.toArray.size=1 then G.toArray[0]else .tuple G.toArray) w':=by
     have H:results fn u.tmps=(do
      let vs<-fn.results.mapM (YA u.tmps)
      pure (if h:vs.size=1 then vs[0]else .tuple vs)):=rfl
     rw[H,Array.mapM_eq_mapM_toList];simp[r3]
    have fin:u.defers=[]/\∃K,(results fn u.tmps).run prog w'= .ok K w'/\SQ (λval w'=>∃B,Up ρ B/\AR B v val/\MR w0 B g w') (.returned K) w':=⟨k6.1,_,Z,_,rfl,B,k3,r5,k5⟩;rcases R with rfl|rfl
    .cases ex with
     |normal=>exact fin
     |_=>cases k2
    .cases ex with
     |ret=>exact fin
     |_=>cases k2
   .cases d
  .rename_i o E;have Y:td f o:=ht _ (zn E);exact Y w0 al C v e' g ρ vs w d J I
  .cases d
def RO {d:ip (Nat×Fe)} (ht:xv d) (h:ok (run d n f [] ⟨0,.nil,[]⟩)=true) (w:i5) (g:BO hJ w):fQ prog f #[] w (λv w'=>v= .bool true/\Ext w w'):=by
 generalize y:run d n f [] ⟨0,.nil,[]⟩=r at h;cases r with
 |no=>cases h
 | mk x e B=>
  cases x with
  | val v=>
   cases v with
   | v v=>
    cases v with
    | b q=>
     have h:q=true:=h;subst h
     have t:MR ⟨hJ,w,g⟩ [] ⟨0,.nil,[]⟩ w:={
      len:=rfl
      gO:=by grind [jF,kG]
      old:=Fr.refl _ _
      xF:=fM
      pre:=by grind [jF,kG]
      apart:=fM
      AH:=TE.nil _ _ _}
     have:=wy ht n ⟨hJ,w,g⟩ f [] ⟨0,.nil,[]⟩ _ e B [] [] w y .nil t;refine fQ.mono this λv w' u=>?_
     obtain⟨C,_,m,h3⟩:=u;exact⟨m,h3.old⟩
    |_=>cases h
   |_=>cases h
  |_=>cases h
end Go.Proofs.YtecaahegomdbbaaGreatDoor.gr.Rn
namespace Go.Proofs.YtecaahegomdbbaaGreatDoor.gr
open Go.Proofs.Tryz
open Go.RowKit
variable {zs:ip Int}
def mD:ip Int->Int->Int->Bool
 |[],d,sum=>if d=1 then decide (sum=2048)else decide (d=0)||decide (sum=4096)
 |n::r,d,sum=>if n<0\/12<n then false else if 0<n then mD r (d+1) (sum+p2 (12-n))else mD r d sum
def pT (zs:ip Int):Bool:=decide (zs.length<=400)&&mD zs 0 0
structure afn (zs:List Int) (w0:World) (x:Nat×Int×Int) (w:World):Prop where
 w:w=w0
 len:zs.length<=400
 k:x.1<=zs.length
 c0:0<=x.2.1
 c1:x.2.1<=x.1
 s0:0<=x.2.2
 s1:x.2.2<=4096*x.1
 go:mD (zs.drop x.1) x.2.1 x.2.2=mD zs 0 0
def ui (c s:Int):mD [] c s=if c=1 then decide (s=2048)else decide (c=0)||decide (s=4096):=rfl
theorem oS (n:Int) (r:ip Int) (c s:Int):mD (n::r) c s=if n<0\/12<n then false else if 0<n then mD r (c+1) (s+p2 (12-n))else mD r c s:=rfl
def DX (w:i5) (v:i6) (zs:ip Int) (C:qW w v zs):fQ prog 401 #[v] w λr w'=>r= .bool (pT zs)/\w=w':=by
 obtain⟨A,c,rfl,hc,u,m⟩:=C;unfold maxLen at u;refine gD func401 fx fE ?_;refine wk ?_
 refine iq (α:=Nat×Int×Int) 0 fx (λx=>[(0,.slice A zs.length c),(3,.I (x.1:Int)),(4,.I x.2.1),(5,.I x.2.2)])
  (afn zs w) (λx=>zs.length-x.1) ?_ ?_
 .rintro⟨k,f,sm⟩ w' ⟨rfl,g,hk,n,t,hs0,B,d⟩;dsimp only at g hk n t hs0 B d|-
  by_cases fY:k<zs.length
  .obtain⟨b,o,z,rfl,D,I,E,y⟩:=pn m fY;rw[y,oS]at d
   by_cases h0:z<0\/12<z
   .rw[if_pos h0]at d
    repeat' (first|refine KS ?_|refine T8 fx fx fx (λhc=>?_) (λhc=>?_)|fail)
    all_goals first|omega|exact fB rfl rfl (by grind [pT])
   .rw[if_neg h0]at d
    by_cases h1:0<z
    .rw[if_pos h1]at d;have F:=X3 (12-z);have G:p2 (12-z)<=2^12:=aaO fy;refine wk ?_;refine JV (r:=p2 (12-z)) fx fx fy (by grind [IntKind.bits]) (by grind [IntWalk.i64_in,p2]) ?_;refine wk ?_;exact hy fx ⟨_,by dsimp only;omega,rfl,(k+1,f+1,sm+p2 (12-z)),sub ⟨rfl,rfl,rfl,rfl⟩,⟨rfl,g,by dsimp only;omega,by dsimp only;omega,by dsimp only;omega,by dsimp only;omega,by dsimp only;omega,d⟩,rfl⟩
    .rw[if_neg h1]at d;refine wk ?_;exact hy fx ⟨_,by dsimp only;omega,rfl,(k+1,f,sm),sub ⟨rfl,rfl,rfl,rfl⟩,⟨rfl,g,by dsimp only;omega,by dsimp only;omega,by dsimp only;omega,by dsimp only;omega,by dsimp only;omega,d⟩,rfl⟩
  .rw[zi fy,ui]at d;have hm:pT zs=if f=1 then decide (sm=2048)else decide (f=0)||decide (sm=4096):=by rw[d];simp[pT,g]
   repeat' (first|refine KS ?_|refine T8 fx fx fx (λhc=>?_) (λhc=>?_)|fail)
   all_goals exact fB rfl rfl fM
 .intro H
  repeat' (first|refine KS ?_|refine T8 fx fx fx (λhc=>?_) (λhc=>?_)|fail)
  .exact fB fx fx (by grind [pT])
  .refine hI ?_;exact iw (H (0,0,0) w ⟨rfl,fy,by simp,by simp,by simp,by simp,by simp,by simp⟩) (sub ⟨rfl,rfl,rfl,rfl⟩)
def GD {k:kw} {a b:Int} (h:a=b):(some (.int k a):Option i6)=some (.int k b):=by rw[h]
def Xw (zs:ip Int):Int:=zs.tail.foldl min (zs.headD 0)
def Ye (zs:ip Int):Int:=zs.tail.foldl max (zs.headD 0)
structure W2 (f:Int->Int->Int) (zs:List Int) (w0:World) (k:Nat) (w:World):Prop where
 w:w=w0
 k1:1<=k
 le:k<=zs.length
def qO (f:Int->Int->Int) (zs:ip Int) (a:Int) (k:Nat) (z:Int) (hk:1<=k) (d:zs[k]? =some z):f ((zs.tail.take (k-1)).foldl f a) z=(zs.tail.take k).foldl f a:=by
 obtain⟨j,rfl⟩:∃j,k=j+1:=⟨k-1,fy⟩
 grind [Nat.add_sub_cancel,List.tail_cons,List.getElem?_cons_succ,List.take_add_one]
def Rf (w:i5) (v:i6) (zs:ip Int) (u:qW w v zs) (t:0<zs.length) (H:zs.length<=2^40):
  fQ prog 397 #[v] w λr w'=>r= .I (Xw zs)/\w=w':=by
 obtain⟨A,c,rfl,hc,F,d⟩:=u;obtain⟨b,o,z,rfl,C,f,n,_⟩:=pn d t
 have G:zs.headD 0=z:=by cases zs with
  |nil=>simp at f
  |cons y r=>simpa using f
 rw[kB]at n;refine gD func397 fx fE ?_;refine wk ?_;refine gC (α:=Nat) (λk=>[(0,.S b o zs.length c),(3,.I ((zs.tail.take (k-1)).foldl min z)),(4,.I (k:Int))]) (W2 min zs w) (λk=>zs.length-k) 1 (sub ⟨rfl,by simp[look],rfl⟩) ⟨rfl,fy,by omega⟩ ?_;rintro k w' ⟨rfl,h1,hle⟩
 by_cases fY:k<zs.length
 .obtain⟨b',o',B,e,D,x,E,_⟩:=pn d fY;injection e with e;injection e with g m;subst g;subst m
  refine wk ?_;refine QJ fx fx ?_;rw[qO min zs z k B h1 x];refine wk ?_;exact gl ⟨k+1,sub ⟨rfl,rfl,rfl⟩,⟨rfl,fy,by omega⟩,by dsimp only;omega⟩
 .obtain rfl:k=zs.length:=fy;refine wk ?_;refine fB fx fx ⟨?_,rfl⟩
  grind [Xw,List.take_of_length_le]
def Rc (w:i5) (v:i6) (zs:ip Int) (u:qW w v zs) (t:0<zs.length) (H:zs.length<=2^40):
  fQ prog 398 #[v] w λr w'=>r= .I (Ye zs)/\w=w':=by
 obtain⟨A,c,rfl,hc,F,d⟩:=u;obtain⟨b,o,z,rfl,C,f,n,_⟩:=pn d t
 have G:zs.headD 0=z:=by cases zs with
  |nil=>simp at f
  |cons y r=>simpa using f
 rw[kB]at n;refine gD func398 fx fE ?_;refine wk ?_;refine gC (α:=Nat) (λk=>[(0,.S b o zs.length c),(3,.I ((zs.tail.take (k-1)).foldl max z)),(4,.I (k:Int))]) (W2 max zs w) (λk=>zs.length-k) 1 (sub ⟨rfl,by simp[look],rfl⟩) ⟨rfl,fy,by omega⟩ ?_;rintro k w' ⟨rfl,h1,hle⟩
 by_cases fY:k<zs.length
 .obtain⟨b',o',B,e,D,x,E,_⟩:=pn d fY;injection e with e;injection e with g m;subst g;subst m
  refine wk ?_;refine Pk fx fx ?_;rw[qO max zs z k B h1 x];refine wk ?_;exact gl ⟨k+1,sub ⟨rfl,rfl,rfl⟩,⟨rfl,fy,by omega⟩,by dsimp only;omega⟩
 .obtain rfl:k=zs.length:=fy;refine wk ?_;refine fB fx fx ⟨?_,rfl⟩
  grind [Ye,List.take_of_length_le]
def jZ (zs:ip Int) (l:Nat):Nat:=if l=0 then 0 else zs.count (l:Int)
def gF (zs:ip Int):Nat->Nat
 |0=>0
 |l+1=>(gF zs l+jZ zs l)*2
def EO (f m:Nat->Nat):ip i6:=(List.range 13).map (λl=>Value.int .u64 (f l:Int))++(List.range 13).map (λl=>Value.int .u64 (m l:Int))
def lO (f m:Nat->Nat):Array i6:=(EO f m).toArray
def yh (f:Nat->Nat) (n v:Nat):Nat->Nat:=λl=>if l=n then v else f l
theorem jC (f m:Nat->Nat):(lO f m).size=26:=by simp[lO,EO]
theorem yU (f m:Nat->Nat) (l:Nat) (h:l<13):(lO f m)[l]? =some (.int .u64 (f l:Int)):=by
 grind [lO,EO,List.getElem?_append_left]
theorem Ea (f m:Nat->Nat) (l:Nat) (h:l<13):(lO f m)[13+l]? =some (.int .u64 (m l:Int)):=by
 grind [lO,EO,List.getElem?_append_right]
def zu (f m:Nat->Nat) (n v:Nat) (h:n<13):(lO f m).setIfInBounds n (.int .u64 (v:Int))=lO (yh f n v) m:=by
 apply G8;apply BK
 grind [Array.toList_setIfInBounds,lO,yh,EO,yU,Ea,Array.getElem?_eq_none,jC]
def zJ (f m:Nat->Nat) (n v:Nat) (h:n<13):(lO f m).setIfInBounds (13+n) (.int .u64 (v:Int))=lO f (yh m n v):=by
 apply G8;apply BK
 grind [Array.toList_setIfInBounds,lO,yh,EO,Ea,yU,Array.getElem?_eq_none,jC]
theorem oJ {f f' m m':Nat->Nat} (d:∀l,l<13->f l=f' l) (hm:∀l,l<13->m l=m' l):lO f m=lO f' m':=by
 unfold lO EO
 congr 2<;>simp_all
def Gu (f m:Nat->Nat):(lO f m).all (·.oneCell')=true:=by
 rw[OS];intro v d;simp only[lO,EO,List.mem_toArray,iS,lp]at d;rcases d with⟨l,_,rfl⟩|⟨l,_,rfl⟩<;>rfl
def MW (zs:ip Int) (d:zs.length<=400):∀l,gF zs l+jZ zs l<=400*2^(l+1)-400:=by
 have hm:∀l,jZ zs l<=400:=by grind [jZ,Nat.le_trans,List.count_le_length]
 intro l
 induction l<;>grind [gF,Nat.pow_succ,Nat.two_pow_pos]
def sL (zs:ip Int) (d:zs.length<=400) (l:Nat) (h:l<=12):gF zs l+jZ zs l<4000000:=by
 have h1:=MW zs d l;have f:2^(l+1)<=2^13:=A8 fU fy;omega
def vB (zs:ip Int):Prop:=∀z∈zs,0<=z/\z<=12
structure ael (zs:List Int) (g g2:Nat) (w0:World) (k:Nat) (w:World):Prop where
 le:k<=zs.length
 B:fW w g 469 (lO (λ_=>0) (λl=>(zs.take k).count (l:Int)))
 B2:fW w g2 469 (lO (λ_=>0) (λ_=>0))
 ext:Ext w0 w
structure aei (zs:List Int) (g g2:Nat) (w0:World) (n:Nat) (w:World):Prop where
 n1:1<=n
 le:n<=13
 B:fW w g 469 (lO (λl=>if l<n then gF zs l else 0) (jZ zs))
 B2:fW w g2 469 (lO (λ_=>0) (λ_=>0))
 ext:Ext w0 w
def xo (w:i5) (v:i6) (zs:ip Int) (N:qW w v zs) (V:vB zs) (f:zs.length<=400):
  fQ prog 425 #[v] w λr w'=>r= .agg (lO (gF zs) (jZ zs))/\Ext w w':=by
 have aj:=N;obtain⟨A,c,rfl,hc,ab,O⟩:=N;refine gD func425 fx fE ?_;refine wk ?_;refine gx (z:= .agg (lO (λ_=>0) (λ_=>0))) fE (λam Q R U=>?_);refine wk ?_;refine iq (α:=Nat) 0 fx (λn=>[(2,.P w.heap.size),(3,.P (w.heap.size+1)),(6,.I (n:Int))]) (aei zs (w.heap.size+1) w.heap.size w) (λn=>13-n) ?_ ?_
 .rintro n B ⟨ai,ah,x,g,K⟩
  by_cases fY:n<=12
  .obtain⟨m,rfl⟩:∃m,n=m+1:=⟨n-1,fy⟩;have ag:=sL zs f m fy;have Y:B.cell? ⟨w.heap.size+1,m,none⟩=some (.int .u64 (gF zs m:Int)):=by rw[x.cell,yU _ _ _ fy];simp
   have Z:B.cell? ⟨w.heap.size+1,13+m,none⟩=some (.int .u64 (jZ zs m:Int)):=by rw[x.cell,Ea _ _ _ fy]
   refine wk ?_;refine Uf m m fx fx fx fx fy fy fy ?_;refine wk ?_;refine Uf m (13+m) fx fx fx fx fy fy fy ?_;refine wk ?_
   refine JV (r:=(gF zs (m+1):Int)) fx fx fU fU (by
    grind [gF,jZ,u64_in]) ?_
   refine wk ?_;refine Uf (m+1) (m+1) fx fx fx fx fy fy fy ?_;refine wk ?_;refine ir x fx fx fx fx (by grind [jC]) (λC d E=>?_);refine wk ?_;have M:Fr (· =w.heap.size+1) B C:=(Fr.drew _ _).t E;refine hy fx ⟨_,fM,rfl,m+1+1,sub ⟨rfl,rfl,rfl⟩,⟨fy,by omega,?_,g.fr M fy,K.te M λj F e=>fy⟩,rfl⟩;rw[zu _ _ _ _ fy]at d;rw[oJ (f':=yh (λl=>if l<m+1 then gF zs l else 0) (m+1) (gF zs (m+1))) (m':=jZ zs) (λl f=>?_) (λl f=>rfl)]
   .exact d
   grind [yh]
  .obtain rfl:n=13:=fy;refine wk ?_;refine gR x fx (by rw[jC];rfl) ?_;refine gY g fx fx (by rw[jC];rfl) (by grind [jC]) (Gu _ _) (λC d E=>?_);refine wk ?_;have e:lO (λl=>if l<13 then gF zs l else 0) (jZ zs)=lO (gF zs) (jZ zs):=by grind [oJ]
   rw[e]at d;refine CP fx fx d (by rw[jC];rfl) ⟨rfl,K.te E λj F e=>fy⟩
 .intro H;refine wk ?_;refine gx (z:= .agg (lO (λ_=>0) (λ_=>0))) fE (λB g L ak=>?_);rw[U]at g|-;refine wk ?_;refine gC (α:=Nat) (λk=>[(2,.P w.heap.size),(3,.P (w.heap.size+1)),(7,.slice A zs.length c),(8,.I (zs.length:Int)),(9,.I (k:Int))]) (ael zs (w.heap.size+1) w.heap.size w) (λk=>zs.length-k) 0 (sub ⟨rfl,rfl,rfl,rfl,rfl⟩) ⟨fy,g,Q.ext L,R.te L λ_ _ T=>T⟩ ?_;rintro k C ⟨hk,d,I,D⟩
  by_cases fY:k<zs.length
  .obtain⟨b,o,z,rfl,X,al,S,af⟩:=pn O fY;have W:=V z fM;obtain⟨q,rfl⟩:=lZ W.1;have aa:=D.cell S;have ae:C.cell? ⟨w.heap.size+1,13+q,none⟩=some (.int .u64 ((zs.take k).count (q:Int):Int)):=by rw[d.cell,Ea _ _ _ fy]
   have ad:(zs.take k).count (q:Int)<=400:=by
    have:=xC (a:=(q:Int)) (l:=zs.take k);rw[kv]at this;omega
   refine wk ?_;refine Uf q (13+q) fx fx fx fx fy fy fy ?_;refine wk ?_;refine wk ?_;refine Uf q (13+q) fx fx fx fx fy fy fy ?_;refine ir d fx fx fx fx (by grind [jC]) (λG y u=>?_);refine wk ?_;refine gl ⟨k+1,sub ⟨rfl,rfl,rfl,rfl,rfl⟩,⟨fy,?_,I.fr u fy,D.te u λj F e=>fy⟩,by dsimp only;omega⟩;have e:((List.count (q:Int) (List.take k zs):Int)+1)=((List.count (q:Int) (List.take k zs)+1:Nat):Int):=fy;rw[e,zJ _ _ _ _ fy]at y;rw[oJ (f':=λ_=>0) (m':=yh (λl=>(zs.take k).count (l:Int)) q ((zs.take k).count (q:Int)+1)) (λl f=>rfl) (λl f=>?_)]
   .exact y
   grind [List.take_add_one,yh,Option.toList_some,List.count_singleton]
  .obtain rfl:k=zs.length:=fy;refine wk ?_;refine Uf 0 13 fx fx fx fx fy fy fy ?_;refine ir d fx fx fx fx (by rw[jC];rfl) (λG y u=>?_);refine wk ?_;refine hI ?_;refine iw (H 1 G ⟨fy,by omega,?_,I.fr u fy,D.te u λj F e=>fy⟩) (sub ⟨rfl,rfl,rfl⟩);have J:fW G (w.heap.size+1) 469 ((lO (λ_=>0) (λl=>(zs.take zs.length).count (l:Int))).setIfInBounds (13+0) (.int .u64 ((0:Nat):Int))):=y;rw[zJ _ _ _ _ fy]at J;rw[oJ (f':=λ_=>0) (m':=yh (λl=>(zs.take zs.length).count (l:Int)) 0 0) (λl f=>?_) (λl f=>?_)]
   .exact J
   .by_cases h1:l<1
    .obtain rfl:l=0:=fy;rfl
    .rw[if_neg h1]
   grind [yh,jZ,List.take_length]
def oi (zs:ip Int) (s:Nat):Nat:=match zs[s]? with
 |some z=>if 0<z then gF zs z.toNat+(zs.take s).count z else 0
 |none=>0
def qi (zs:ip Int):ip Int:=(List.range zs.length).map λs=>(oi zs s:Int)
def UB (w:i5) (b:Nat) (l:ip Int):Prop:=fW w b 50 (l.map (Value.int .u64)).toArray
def GL:x4 248 50 (.int .u64 0) 1 8:=Nq underlying248 fE
def lH (zs:ip Int) (k:Nat):ip Int:=(List.range zs.length).map λs=>if s<k then(oi zs s:Int)else 0
structure aff (zs:List Int) (g b:Nat) (w0:World) (k:Nat) (w:World):Prop where
 le:k<=zs.length
 B:fW w g 469 (lO (λl=>gF zs l+if l=0 then 0 else(zs.take k).count (l:Int)) (jZ zs))
 U:UB w b (lH zs k)
 ext:Ext w0 w
def K4 (h:pT zs=true):zs.length<=400:=by
 grind [pT]
def Ae (h:pT zs=true):vB zs:=by
 simp only[pT,iU,decide_eq_true_eq]at h
 have key:∀(l:ip Int) (c s:Int),mD l c s=true->vB l:=by
  intro l
  induction l with
  |nil=>intro c s _ z d;cases d
  |cons n r f=>
   grind [oS,vB]
 grind
def BL {k:Nat} {z:Int} (h:zs[k]? =some z):(zs.take k).count z<zs.count z:=by
 grind [List.length,List.getElem?_eq_some_iff,List.getElem?_eq_getElem,List.drop_eq_getElem_cons,List.take_append_drop,List.count_cons_self]
def Kg (w:i5) (v:i6) (zs:ip Int) (M:qW w v zs) (hm:pT zs=true):
  fQ prog 402 #[v] w λr w'=>∃b,r= .S b 0 zs.length zs.length/\w.heap.size<=b/\UB w' b (qi zs)/\Ext w w':=by
 have L:=M;have n:=K4 hm;have N:=Ae hm;obtain⟨A,c,rfl,hc,am,T⟩:=M;refine gD func402 fx fE ?_;refine wk ?_;refine iq (α:=Nat×Nat×Nat) 0 fx (λx=>[(0,.slice A zs.length c),(3,.P x.2.1),(4,.S x.2.2 0 zs.length zs.length),(5,.I (x.1:Int))]) (λx w'=>aff zs x.2.1 x.2.2 w x.1 w'/\w.heap.size<=x.2.1/\w.heap.size<=x.2.2) (λx=>zs.length-x.1) ?_ ?_
 .rintro⟨k,g,b⟩ O ⟨⟨hk,d,m,t⟩,y,u⟩;dsimp only at hk d m y u|-;have aa:g≠b:=fW.Dm d m fU
  by_cases fY:k<zs.length
  .obtain⟨aj,o0,z,rfl,ak,ag,Z,ap⟩:=pn T fY;have ah:=N z fM;obtain⟨q,rfl⟩:=lZ ah.1;have al:=t.cell Z
   by_cases hq:q=0
   .subst hq;refine wk ?_;refine hy fx ⟨_,fM,rfl,(k+1,g,b),sub ⟨rfl,rfl,rfl,rfl⟩,⟨⟨by dsimp only;omega,?_,?_,t⟩,y,u⟩,rfl⟩
    .grind
    grind [lH,List.map_congr_left,oi]
   .have aq:=sL zs n q fy;have ab:jZ zs q=zs.count (q:Int):=by unfold jZ;rw[if_neg hq]
    have af:=BL ag;rw[<-ab]at af;have an:O.cell? ⟨g,q,none⟩=some (.int .u64 ((gF zs q+(zs.take k).count (q:Int):Nat):Int)):=by rw[d.cell,yU _ _ _ fy];simp[hq]
    refine wk ?_;refine Uf q q fx fx fx fx fx fy fy ?_;refine wk ?_;refine ir m fx fx fx fx (by grind [lH]) (λC Y G=>?_);have D:=d.fr G fy;have ao:C.cell? ⟨g,q,none⟩=some (.int .u64 ((gF zs q+(zs.take k).count (q:Int):Nat):Int)):=by rw[D.cell,yU _ _ _ fy];simp[hq]
    refine wk ?_;refine Uf q q fx fx fx fx fx fy fy ?_;refine wk ?_;refine Uf q q fx fx fx fx fx fy fy ?_;refine ir D fx fx fx fx (by grind [jC]) (λQ f J=>?_);refine wk ?_;refine hy fx ⟨_,fM,rfl,(k+1,g,b),sub ⟨rfl,rfl,rfl,rfl⟩,⟨⟨by dsimp only;omega,?_,?_,(t.te G λj K e=>fy).te J λj K e=>fy⟩,y,u⟩,rfl⟩
    .have e:((gF zs q+(zs.take k).count (q:Int):Nat):Int)+1=((gF zs q+(zs.take k).count (q:Int)+1:Nat):Int):=fy;rw[e,zu _ _ _ _ fy]at f;dsimp only;rw[oJ (f':=yh (λl=>gF zs l+if l=0 then 0 else(zs.take k).count (l:Int)) q (gF zs q+(zs.take k).count (q:Int)+1)) (m':=jZ zs) (λl n=>?_) (λl n=>rfl)]
     .exact f
     grind [yh,List.take_add_one,Option.toList_some,List.count_singleton]
    .dsimp only
     have:UB Q b ((lH zs k).set k ((gF zs q+(zs.take k).count (q:Int):Nat):Int)):=by
      unfold UB;rw[vz];have:=fW.fr Y J (by show ¬b=g;exact uG aa);simpa using this
     have e:(lH zs k).set k ((gF zs q+(zs.take k).count (q:Int):Nat):Int)=lH zs (k+1):=by
      apply BK;intro s;rw[LK];unfold lH
      by_cases hs:s<zs.length
      .grind [List.length_map,List.length_range,List.getElem?_range,oi]
      .grind
     grind
  .obtain rfl:k=zs.length:=fy;refine wk ?_
   have e:lH zs zs.length=qi zs:=by
    unfold lH qi;exact lX
   rw[e]at m;exact fB fx fx fM
 .intro H;refine wk ?_;refine fI fx fx (DX w _ zs L) (λr O h1=>?_);obtain⟨rfl,rfl⟩:=h1;rw[hm];refine wk ?_;refine fI fx fx (xo _ _ zs L N n) (λr C S=>?_);obtain⟨rfl,E⟩:=S;refine gx (z:= .agg (lO (λ_=>0) (λ_=>0))) fE (λQ f W ar=>?_);refine gY f fx fx (by rw[jC];rfl) (by show(lO _ _).size=_;grind [jC]) (Gu _ _) (λR U X=>?_);refine wk ?_;refine WA GL fx fx fx fy fy fy (λai V F au=>?_);rw[je]at V|-;refine wk ?_;refine hI ?_;have ad:=E.size;have I:Ext w R:=(E.te W λ_ _ B=>B).te X λj K e=>fy
  have ae:=I.size;refine iw (H (0,C.heap.size,R.heap.size) ai ⟨⟨by dsimp only;omega,?_,?_,I.te F λ_ _ B=>B⟩,ad,ae⟩) (sub ⟨rfl,rfl,rfl,rfl⟩)
  .dsimp only;have:=U.ext F
   simp_all
  .dsimp only;unfold UB
   have e:lH zs 0=List.replicate zs.length 0:=by
    apply xM
    .simp[lH]
    .grind [lH]
   simp_all
end Go.Proofs.YtecaahegomdbbaaGreatDoor.gr
namespace Go.Proofs.YtecaahegomdbbaaGreatDoor.gr.Rn
open Go.Proofs.Tryz
open Go.RowKit
variable {v:AV} {e:En} {l:ip Nat} {d:Mem} {f:Nat}
noncomputable section
def e0:En:=⟨[],[],[],[]⟩
def nmK (q:kw) (l:ip SV) (k:ip Nat->Rs):Rs:=List.rec (motive:=λ_=>(ip Nat->Rs)->Rs) (λk=>k []) (λx _ d k=>uR (.v x) λf a=>tj f q (d λr=>k (a::r))) l k
def Yr (d:Mem) (x:AV) (k:ip Nat->Rs):Rs:=LQ x (k []) (λid z j n=>Jk d id (Nat.mul j z) n λl=>nmK .i64 l k) (λid z j n _=>Jk d id (Nat.mul j z) n λl=>nmK .i64 l k) (k []) (λ_=> .no) λ_ _=> .no
def Yo (al:ip AV) (k:AV->Rs):Rs:=List.rec (motive:=λ_=>Rs) .no (λx r _=>List.rec (motive:=λ_=>Rs) (k x) (λ_ _ _=> .no) r) al
def bR (d:Mem) (b:Bool):Rs:=Bool.rec (motive:=λ_=>Rs) (.mk (.val (.v (.b false))) e0 d) (.mk (.val (.v (.b true))) e0 d) b
def PI (l:ip Nat):Nat:=List.rec (motive:=λ_=>Nat) 0 (λ_ _ d=>Nat.add d 1) l
theorem w7:∀l:ip Nat,PI l=l.length
 |[]=>rfl
 |_::l=>by
  show Nat.add (PI l) 1=_
  rw[w7 l];rfl
section
variable {w0:Fm} {σ:Mem} {res:Rs} {ρ:Pl} {w:i5} (hr:res≠ .no)
include hr
theorem LR {q:kw}:∀{l:ip SV} {vs:ip i6} {k:ip Nat->Rs},nmK q l k=res->j1 ρ l vs->∃r:ip Nat,r.length=l.length/\vs=r.map (λa=>Value.int q (Int.ofNat a))/\k r=res
 |[],vs,k,h,d=>by
  cases d;exact⟨[],rfl,rfl,h⟩
 | x::l,vs,k,h,d=>by
  cases d with
  |cons h1 g=>
   obtain⟨f,a,e0,g1⟩:=iz hr (show uR (.v x) (λf a=>tj f q (nmK q l λr=>k (a::r)))=res from h);obtain⟨g2,g3⟩:=iD hr g1;subst g2;injection e0 with e0
   subst e0;obtain⟨r,g4,g5,g6⟩:=LR g3 g;exact⟨a::r,by simp[g4],by rw[h1.2.1,g5,jj],g6⟩
theorem LF (F:MR w0 ρ σ w) {x:AV} {m:i6} {k:ip Nat->Rs} (g:AR ρ x m) (h:Yr σ x k=res):∃r:ip Nat,qW w m (r.map Int.ofNat)/\k r=res:=by
 have row:∀{id o n cap:Nat} {p:At} {k:ip Nat->Rs},ρ[id]? =some p->n<=cap->cap<=maxLen->Jk σ id o n (λl=>nmK .i64 l k)=res->∃r:ip Nat,qW w (.S p.b o n cap) (r.map Int.ofNat)/\k r=res:=λ{id o n cap p k} f h1 y h=>by
  obtain⟨J,l,g3,g4,g5,g6⟩:=mn hr h;obtain⟨vs,B,C⟩:=F.cells f (l:=l) (o:=o) fM;obtain⟨r,I,D,E⟩:=LR hr g6 B;refine⟨r,⟨some ⟨p.b,o,none⟩,cap,by grind,by grind,y,λt=>⟨p.b,o,rfl,?_,λj u hu=>?_⟩⟩,E⟩
  .rw[jv]at t;have H:vs[0]? =some (Value.I (Int.ofNat r[0])):=by rw[D];simp[t]
   exact Py w ⟨p.b,o+0,none⟩ (C 0 _ H).1
  grind
 rcases kS hr h with⟨d,g1⟩|⟨id,z,j,n,d,g1⟩|⟨id,z,j,n,c,d,g1⟩|⟨_,_,_,_,d,g1⟩|⟨l,d,g1⟩|⟨id,o,d,g1⟩<;>subst d
 .have v:m= .slice none 0 0:=g;subst v;exact⟨[],⟨none,0,rfl,gJ _,iF _,fM⟩,g1⟩
 .obtain⟨p,f,_,hc,hm,rfl⟩:=g;exact row f fy fy g1
 .obtain⟨p,f,G,hm,rfl⟩:=g;exact row f G hm g1
 .obtain⟨p,f,hm,rfl⟩:=g;exact⟨[],⟨_,_,rfl,iF _,fy,fM⟩,g1⟩
 .grind
 grind
theorem Lv {al:ip AV} {vs:ip i6} {k:AV->Rs} (f:Bz ρ al vs) (h:Yo al k=res):∃x v,vs=[v]/\AR ρ x v/\k x=res:=by
 cases f with
 |nil=>exact absurd h.symm hr
 |cons h1 d=>
  cases d with
  |nil=>exact⟨_,_,rfl,h1,h⟩
  |cons _ _=>exact absurd h.symm hr
end
def iQ:Rs.mk (.val v) e d≠ .no:=λh=>by cases h
def R3 {f:Mem} {b:Bool} (h:bR d b= .mk (.val v) e f):v= .v (.b b)/\f=d:=by
 cases b<;>(injection h with h1 _ h3;grind)
def u2 {o:ip AV->Mem->Rs} {g:ip Nat->Mem->Rs} (E:∀al d,o al d=Yo al λx=>Yr d x λl=>g l d) (D:∀(r:ip Nat) (v:i6) (d:Mem) (w:i5) (a:AV) e m,qW w v (r.map Int.ofNat)->g r d= .mk (.val a) e m->m=d/\fQ prog f #[v] w λval w'=>(∀ρ,AR ρ a val)/\Ext w w'):td f o:=λw0 al d a e' m ρ vs w h B n=>by
 rw[E]at h;obtain⟨x,v,rfl,h1,u⟩:=Lv iQ B h;obtain⟨r,h3,y⟩:=LF iQ n h1 u;obtain⟨rfl,C⟩:=D r v d w a e' m h3 y;exact fQ.mono C λval w' t=>⟨ρ,Up.refl ρ,t.1 ρ,n.ext t.2⟩
def CK (l:ip Nat) (c s:Nat):Bool:=List.rec (motive:=λ_=>Nat->Nat->Bool) (λc s=>Bool.rec (motive:=λ_=>Bool) (Bool.rec (motive:=λ_=>Bool) (Nat.beq s 4096) true (Nat.beq c 0)) (Nat.beq s 2048) (Nat.beq c 1)) (λn _ d c s=>Bool.rec (motive:=λ_=>Bool) false (Nat.rec (motive:=λ_=>Bool) (d c s) (λ_ _=>cN (Nat.add c 1) λc=>cN (Nat.add s (Nat.pow 2 (Nat.sub 12 n))) λs=>d c s) n) (Nat.ble n 12)) l c s
def Ga (l:ip Nat):Bool:=an (Nat.ble (PI l) 400) (CK l 0 0)
theorem nU (a b:Nat):Nat.beq a b=decide (a=b):=by
 grind [ko]
theorem YM (a b:Bool):an a b=(a&&b):=by cases a<;>rfl
theorem zN:∀(l:ip Nat) (c s:Nat),CK l c s=mD (l.map Int.ofNat) c s
 | [],c,s=>by
  show Bool.rec (motive:=λ_=>Bool) (Bool.rec (motive:=λ_=>Bool) (Nat.beq s 4096) true (Nat.beq c 0)) (Nat.beq s 2048) (Nat.beq c 1)=_
  rw[PR,ui];rcases ko c 1 with⟨h1,d⟩|⟨h1,d⟩
  .have f:(c:Int)=1:=fy;rw[d,if_pos f]
   grind [Nat.beq,nU]
  .have f:¬(c:Int)=1:=fy;rw[d,if_neg f];rcases ko c 0 with⟨h3,g⟩|⟨h3,g⟩
   .simp_all
   .rw[g]
    grind [decide,Nat.beq,nU]
 | n::l,c,s=>by
  have t:CK (n::l) c s=Bool.rec (motive:=λ_=>Bool) false (Nat.rec (motive:=λ_=>Bool) (CK l c s) (λ_ _=>cN (Nat.add c 1) λc=>cN (Nat.add s (Nat.pow 2 (Nat.sub 12 n))) λs=>CK l c s) n) (Nat.ble n 12):=rfl;rw[t,jj,oS];cases u:Nat.ble n 12 with
  |false=>
   grind [Nat.ble_eq_true_of_le]
  | true=>
   have hle:=jg u;rw[if_neg fM];cases n with
   |zero=>
    rw[if_neg fU];exact zN l c s
   |succ m=>
    rw[if_pos fM];show cN (Nat.add c 1) (λc=>cN (Nat.add s (Nat.pow 2 (Nat.sub 12 (m+1)))) λs=>CK l c s)=_
    rw[iT,iT,zN]
    congr 1
    show((s+2^(12-(m+1)):Nat):Int)=_
    grind [p2]
def Ff (l:ip Nat):Ga l=pT (l.map Int.ofNat):=by
 grind [Ga,pT,YM,zN,n2,w7,List.length_map]
def Z4 (al:ip AV) (d:Mem):Rs:=Yo al λx=>Yr d x λl=>bR d (Ga l)
def TL:td 401 Z4:=u2 (g:=λl d=>bR d (Ga l)) (λ_ _=>rfl) λr v d w a e n m h=>by
 obtain⟨rfl,rfl⟩:=R3 h;refine⟨rfl,fQ.mono (DX w v _ m) λval w' f=>?_⟩;obtain⟨rfl,rfl⟩:=f;exact⟨λρ=>by rw[Ff];rfl,Fr.refl _ _⟩
def Xh (up:Bool) (l:ip Nat) (a:Nat) (k:Nat->Rs):Rs:=List.rec (motive:=λ_=>Nat->Rs) k (λx _ d a=>zB (eB up (Nat.ble a x)) (d x) (d a)) l a
theorem Jz (up:Bool):∀(l:ip Nat) (a:Nat) (k:Nat->Rs),Xh up l a k=k (l.foldl (λa x=>if up then max a x else min a x) a)
 |[],_,_=>rfl
 |x::l,a,k=>by
  have d:Xh up (x::l) a k=zB (eB up (Nat.ble a x)) (Xh up l x k) (Xh up l a k):=rfl;rw[d,mc,xW,Jz,Jz,n2,wa]
  grind
def mxO (up:Bool) (al:ip AV) (d:Mem):Rs:=Yo al λx=>Yr d x λl=>List.rec (motive:=λ_=>Rs) .no (λa r _=>ji (Nat.ble (PI (a::r)) 1000000) (Xh up r a λm=>ji (Nat.ble m 9223372036854775807) (.mk (.val (.v (.n .i64 m))) e0 d))) l
def Pe {up:Bool} {f:Mem} (h:(List.rec (motive:=λ_=>Rs) .no (λa r _=>ji (Nat.ble (PI (a::r)) 1000000) (Xh up r a λm=>ji (Nat.ble m 9223372036854775807) (.mk (.val (.v (.n .i64 m))) e0 d))) l)= .mk (.val v) e f):∃a r,l=a::r/\l.length<=1000000/\v= .v (.n .i64 (r.foldl (λa x=>if up then max a x else min a x) a))/\r.foldl (λa x=>if up then max a x else min a x) a<=9223372036854775807/\f=d:=by
 cases l with
 |nil=>cases h
 |cons a r=>
  obtain⟨h1,h⟩:=fS fy iQ;rw[Jz]at h;obtain⟨t,h⟩:=fS h iQ;have h1:=jg h1;rw[w7]at h1;injection h with h3 _ g
  injection h3 with h3
  exact⟨a,r,rfl,h1,h3.symm,lX,g.symm⟩
theorem Iq:∀(r:ip Nat) (a:Nat),(r.map Int.ofNat).foldl max (a:Int)=((r.foldl (λa x=>if true then max a x else min a x) a:Nat):Int)
 |[],_=>rfl
 |x::r,a=>by
  rw[jj,wa,wa];have:max (a:Int) (Int.ofNat x)=((max a x:Nat):Int):=by show max (a:Int) (x:Int)=_;omega
  rw[this];exact Iq r _
theorem GJ:∀(r:ip Nat) (a:Nat),(r.map Int.ofNat).foldl min (a:Int)=((r.foldl (λa x=>if false then max a x else min a x) a:Nat):Int)
 |[],_=>rfl
 |x::r,a=>by
  rw[jj,wa,wa];have:min (a:Int) (Int.ofNat x)=((min a x:Nat):Int):=by show min (a:Int) (x:Int)=_;omega
  rw[this];exact GJ r _
def Ve:td 398 (mxO true):=u2 (g:=λl d=>List.rec (motive:=λ_=>Rs) .no (λa r _=>ji (Nat.ble (PI (a::r)) 1000000) (Xh true r a λm=>ji (Nat.ble m 9223372036854775807) (.mk (.val (.v (.n .i64 m))) e0 d))) l) (λ_ _=>rfl) λr v d w a e y u h=>by
 obtain⟨x,r,rfl,h1,rfl,f,rfl⟩:=Pe h;refine⟨rfl,fQ.mono (Rc w v _ u iB fM) λval w' t=>?_⟩;obtain⟨rfl,rfl⟩:=t;exact⟨λρ=>⟨by grind [Ye,Iq],f⟩,Fr.refl _ _⟩
def U3:td 397 (mxO false):=u2 (g:=λl d=>List.rec (motive:=λ_=>Rs) .no (λa r _=>ji (Nat.ble (PI (a::r)) 1000000) (Xh false r a λm=>ji (Nat.ble m 9223372036854775807) (.mk (.val (.v (.n .i64 m))) e0 d))) l) (λ_ _=>rfl) λr v d w a e y u h=>by
 obtain⟨x,r,rfl,h1,rfl,f,rfl⟩:=Pe h;refine⟨rfl,fQ.mono (Rf w v _ u iB fM) λval w' t=>?_⟩;obtain⟨rfl,rfl⟩:=t;exact⟨λρ=>⟨by grind [Xw,GJ],f⟩,Fr.refl _ _⟩
def dg (T j:Nat):Nat:=Nat.mod (Nat.shiftRight T (Nat.mul 16 j)) 65536
def Kn (x:Nat):Nat:=Nat.shiftLeft 1 (Nat.mul 16 x)
def Ka (l:ip Nat):Nat:=List.rec (motive:=λ_=>Nat) 0 (λx _ d=>Nat.add d (Kn x)) l
def zI:ip Nat->Nat
 |[]=>0
 |d::r=>d+65536*zI r
def UD (x:Nat):Kn x=65536^x:=by
 show 1<<<(16*x)=_
 grind [Nat.shiftLeft_eq,Nat.pow_mul]
def RP (T j:Nat):dg T j=T/65536^j% 65536:=by
 show(T>>>(16*j))% 65536=_
 rw[L7,Nat.pow_mul]
theorem V6:∀{ds:ip Nat} {j:Nat},(∀d∈ds,d<65536)->dg (zI ds) j=ds[j]?.getD 0
 |[],j,_=>by rw[RP];simp[zI]
 |d::r,0,h=>by
  simp_all [RP,zI]
 |d::r,j+1,h=>by
  have m:=h d iB;have f:=V6 (ds:=r) (j:=j) fM;rw[RP]at f|-;rw[Dr,<-f];show(d+65536*zI r)/65536^(j+1)% 65536=_
  have g:(d+65536*zI r)/65536=zI r:=fy
  grind [Nat.pow_succ,Nat.mul_comm,Nat.div_div_eq_div_mul]
theorem zQ:∀{ds:ip Nat} {j:Nat},j<ds.length->zI (ds.modify j (· +1))=zI ds+65536^j
 |[],j,h=>by cases h
 |d::r,0,_=>by
  grind [zI]
 |d::r,j+1,h=>by
  have f:=zQ (ds:=r) (j:=j) fM
  grind [zI,Nat.pow_succ]
def IX (F:Nat->Nat) (l:ip Nat):ip Nat:=(List.range 13).map λj=>F j+l.count j
def HW (F:Nat->Nat) (l:ip Nat) {x:Nat} (d:x<=12):zI (IX F (l++[x]))=zI (IX F l)+Kn x:=by
 rw[UD,<-zQ (by simp[IX];omega)]
 congr 1
 apply BK
 grind [IX,List.getElem?_range,List.count_singleton,List.getElem?_eq_none]
theorem PX:∀{l:ip Nat},(∀x∈l,x<=12)->Ka l=zI (IX (λ_=>0) l)
 |[],_=>by
  show(0:Nat)=_
  decide
 |x::l,h=>by
  have d:=PX (l:=l) fM;show Ka l+Kn x=_
  rw[d,<-HW _ _ (h x iB)]
  grind [IX,List.map_congr_left,List.count_singleton]
theorem Lu {F:Nat->Nat} {j:Nat} (f:j<=12) (d:∀i,i<=12->F i+l.count i<65536):dg (zI (IX F l)) j=F j+l.count j:=by
 grind [V6,IX,List.getElem?_range]
def mN (T j:Nat):Nat:=Nat.rec (motive:=λ_=>Nat) 0 (λ_ _=>dg T j) j
def fsK (T n j f:Nat) (k:ip Nat->Rs):Rs:=Nat.rec (motive:=λ_=>Nat->Nat->(ip Nat->Rs)->Rs) (λ_ _ k=>k []) (λ_ d j f k=>fN (Nat.mul (Nat.add f (mN T j)) 2) λf'=>fN (Nat.add j 1) λg=>d g f' λr=>k (f::r)) n j f k
def msK (T n j:Nat) (k:ip Nat->Rs):Rs:=Nat.rec (motive:=λ_=>Nat->(ip Nat->Rs)->Rs) (λ_ k=>k []) (λ_ d j k=>fN (mN T j) λx=>fN (Nat.add j 1) λf=>d f λr=>k (x::r)) n j k
def uK (l:ip Nat) (k:ip SV->Rs):Rs:=List.rec (motive:=λ_=>(ip SV->Rs)->Rs) (λk=>k []) (λx _ d k=>ji (Nat.ble x 60000) (d λr=>k (.n .u64 x::r))) l k
theorem EF {res:Rs} (d:res≠ .no):∀{l:ip Nat} {k:ip SV->Rs},uK l k=res->(∀x∈l,x<=60000)/\k (l.map λx=> .n .u64 x)=res
 |[],k,h=>⟨λx g=>(by cases g),h⟩
 |x::l,k,h=>by
  obtain⟨h1,f⟩:=fS (show ji (Nat.ble x 60000) (uK l λr=>k (.n .u64 x::r))=res from h) d;obtain⟨h3,m⟩:=EF d f
  simp_all
theorem RM (ρ:Pl):∀{l:ip Nat},(∀x∈l,x<=60000)->j1 ρ (l.map λx=> .n .u64 x) (l.map λx=>Value.int .u64 (Int.ofNat x))
 |[],_=> .nil
 | x::l,h=> .cons ⟨rfl,rfl,by
   have:=h x iB;show x<=18446744073709551615
   omega⟩ (RM ρ fM)
def count_map (l:ip Nat) (j:Nat):(l.map Int.ofNat).count (j:Int)=l.count j:=by
 induction l<;>grind
section
variable {l:ip Nat} (hl:∀x∈l,x<=12) (hn:l.length<=400)
include hl hn
theorem VI {j:Nat} (d:j<=12):mN (Ka l) j=jZ (l.map Int.ofNat) j:=by
 unfold jZ;cases j with
 |zero=>rfl
 |succ j=>
  rw[if_neg fy,count_map];show dg (Ka l) (j+1)=_
  grind [PX,Lu,List.count_le_length]
theorem RE:∀(n j:Nat) (k:ip Nat->Rs),j+n<=13->fsK (Ka l) n j (gF (l.map Int.ofNat) j) k=k ((List.range' j n).map (gF (l.map Int.ofNat)))
 |0,_,_,_=>rfl
 |n+1,j,k,h=>by
  have d:fsK (Ka l) (n+1) j (gF (l.map Int.ofNat) j) k=fN (Nat.mul (Nat.add (gF (l.map Int.ofNat) j) (mN (Ka l) j)) 2) λf'=>fN (Nat.add j 1) λg=>fsK (Ka l) n g f' λr=>k (gF (l.map Int.ofNat) j::r):=rfl
  rw[d,gV,gV,VI hl hn fy];have f:Nat.mul (Nat.add (gF (l.map Int.ofNat) j) (jZ (l.map Int.ofNat) j)) 2=gF (l.map Int.ofNat) (j+1):=rfl;rw[f];exact RE n (j+1) _ fy
theorem SD:∀(n j:Nat) (k:ip Nat->Rs),j+n<=13->msK (Ka l) n j k=k ((List.range' j n).map (jZ (l.map Int.ofNat)))
 |0,_,_,_=>rfl
 |n+1,j,k,h=>by
  have d:msK (Ka l) (n+1) j k=fN (mN (Ka l) j) λx=>fN (Nat.add j 1) λf=>msK (Ka l) n f λr=>k (x::r):=rfl
  rw[d,gV,gV,VI hl hn fy];exact SD n (j+1) _ fy
end
def Xt (l:ip Nat):Bool:=List.rec (motive:=λ_=>Bool) true (λx _ d=>an (Nat.ble x 12) d) l
theorem Cg:∀{l:ip Nat},Xt l=true->∀x∈l,x<=12
 |[],_,x,d=>by cases d
 |y::l,h,x,d=>by
  obtain⟨h1,f⟩:=jr (show an (Nat.ble y 12) (Xt l)=true from h);rcases iu.1 d with rfl|d
  .exact jg h1
  .exact Cg f x d
def TU (h:∀x∈l,x<=12):vB (l.map Int.ofNat):=λz d=>by
 grind
def XO (l:ip Nat) (k:ip Nat->ip Nat->Rs):Rs:=ji (Xt l) (ji (Nat.ble (PI l) 400) (fN (Ka l) λT=>fsK T 13 0 0 λF=>msK T 13 0 λM=>k F M))
def Gh {res:Rs} (f:res≠ .no) {k:ip Nat->ip Nat->Rs} (h:XO l k=res):(∀x∈l,x<=12)/\l.length<=400/\k ((List.range 13).map (gF (l.map Int.ofNat))) ((List.range 13).map (jZ (l.map Int.ofNat)))=res:=by
 obtain⟨h1,h⟩:=fS h f;obtain⟨d,h⟩:=fS h f;have h1:=Cg h1;have d:=jg d;rw[w7]at d;rw[gV]at h;have h:fsK (Ka l) 13 0 (gF (l.map Int.ofNat) 0) (λF=>msK (Ka l) 13 0 λM=>k F M)=res:=h;rw[RE h1 d 13 0 _ fy,SD h1 d 13 0 _ fy]at h;exact⟨h1,d,h⟩
def R1 (l:ip Nat) (d:Mem):Rs:=XO l λF M=>uK (F++M) λcs=> .mk (.val (.g cs)) e0 d
def RB (al:ip AV) (d:Mem):Rs:=Yo al λx=>Yr d x λl=>R1 l d
def Nn:td 425 RB:=u2 (g:=R1) (λ_ _=>rfl) λr v B w a e C x h=>by
 obtain⟨h1,y,h3⟩:=Gh iQ h;obtain⟨f,m⟩:=EF iQ h3;injection m with d _ n
 injection d with d
 subst n;refine⟨rfl,fQ.mono (xo w v _ x (TU h1) fM) λval w' u=>?_⟩;obtain⟨rfl,t⟩:=u;refine⟨λρ=>?_,t⟩;rw[<-d];refine⟨_,RM ρ f,?_⟩;unfold lO EO;rw[pw,rN,rN];rfl
def pF (l:ip Nat):Nat:=List.rec (motive:=λ_=>Nat) 0 (λx _ d=>Nat.add x (Nat.mul 65536 d)) l
theorem Xb:∀l:ip Nat,pF l=zI l
 |[]=>rfl
 |x::l=>by
  show x+65536*pF l=x+65536*zI l
  rw[Xb l]
def cdK (l:ip Nat) (T:Nat) (k:ip Nat->Rs):Rs:=List.rec (motive:=λ_=>Nat->(ip Nat->Rs)->Rs) (λ_ k=>k []) (λx _ d T k=>Nat.rec (motive:=λ_=>Rs) (d T λr=>k (0::r)) (λ_ _=>fN (dg T x) λc=>fN (Nat.add T (Kn x)) λT=>d T λr=>k (c::r)) x) l T k
theorem JY {zs:ip Nat} (d:∀x∈zs,x<=12) (f:∀i,i<=12->gF (zs.map Int.ofNat) i<=60000) (g:zs.length<=400):∀{l pre q:ip Nat} {k:ip Nat->Rs},zs=pre++l->(∀j,0<j->q.count j=pre.count j)->q.length<=pre.length->cdK l (zI (IX (gF (zs.map Int.ofNat)) q)) k=k ((List.range' pre.length l.length).map (oi (zs.map Int.ofNat)))
 |[],_,_,_,_,_,_=>rfl
 | x::l,pre,q,k,he,hq,C=>by
  have y:zs[pre.length]? =some x:=by rw[he];simp
  have t:x<=12:=d x (by rw[he];simp);have B:(zs.map Int.ofNat).take pre.length=pre.map Int.ofNat:=by rw[he,pw,FM iB]
  have hlen:pre.length+l.length+1=zs.length:=by rw[he];simp;omega
  have w:oi (zs.map Int.ofNat) pre.length=if 0<x then gF (zs.map Int.ofNat) x+pre.count x else 0:=by
   unfold oi;rw[qX,y];show(if 0<Int.ofNat x then gF (zs.map Int.ofNat) (Int.ofNat x).toNat+((zs.map Int.ofNat).take pre.length).count (Int.ofNat x)else 0)=_
   rw[B];have:=count_map pre x
   by_cases h0:0<x
   .grind
   .grind
  rw[iP,K7,jj,w];have n:pre.length+1=(pre++[x]).length:=by simp
  cases x with
  |zero=>
   show cdK l (zI (IX (gF (zs.map Int.ofNat)) q)) (λr=>k (0::r))=_
   rw[JY d f g (pre:=pre++[0]) (q:=q) (by rw[he];simp) fM (by simp;omega),<-n];rfl
  |succ m=>
   show fN (dg (zI (IX (gF (zs.map Int.ofNat)) q)) (m+1)) (λc=>fN (Nat.add (zI (IX (gF (zs.map Int.ofNat)) q)) (Kn (m+1))) λT=>cdK l T λr=>k (c::r))=_
   have v:∀i,i<=12->gF (zs.map Int.ofNat) i+q.count i<65536:=fM;rw[gV,gV,Lu t v]
   .have u:Nat.add (zI (IX (gF (zs.map Int.ofNat)) q)) (Kn (m+1))=zI (IX (gF (zs.map Int.ofNat)) (q++[m+1])):=(HW _ _ t).symm;rw[u,JY d f g (pre:=pre++[m+1]) (q:=q++[m+1]) (by rw[he];simp) fM (by simp;omega),<-n,if_pos (Nat.succ_pos m),hq _ (Nat.succ_pos m)]
def XF (l:ip Nat) (d:Mem):Rs:=ji (Ga l) (XO l λF _=>uK F λ_=>fN (pF F) λT=>cdK l T λc=>uK c λcs=>fN (PI l) λn=>rb d 50 cs λid d=> .mk (.val (.v (.lx id 1 0 n n))) e0 d)
def z7 (al:ip AV) (d:Mem):Rs:=Yo al λx=>Yr d x λl=>XF l d
def xq (R:∀(w:i5) (v:i6) (zs:ip Int),qW w v zs->pT zs=true->fQ prog f #[v] w λr w'=>∃b,r= .S b 0 zs.length zs.length/\w.heap.size<=b/\UB w' b (qi zs)/\Ext w w'):td f z7:=λw0 al U a e' V ρ vs w h N g=>by
 obtain⟨x,v,rfl,h1,C⟩:=Lv iQ N h;obtain⟨l,h3,D⟩:=LF iQ g h1 C;obtain⟨t,E⟩:=fS (show ji (Ga l) _=_ from D) iQ;rw[Ff]at t;obtain⟨F,G,H⟩:=Gh iQ E;obtain⟨y,m⟩:=EF iQ H;rw[gV,Xb]at m;have J:∀i,i<=12->gF (l.map Int.ofNat) i<=60000:=λi hi=>y _ fM
 have e0:(List.range 13).map (gF (l.map Int.ofNat))=IX (gF (l.map Int.ofNat)) []:=by
  unfold IX;exact lX
 rw[e0,JY F J G (l:=l) (pre:=[]) (q:=[]) rfl (λ_ _=>rfl) (gJ _)]at m;obtain⟨B,n⟩:=EF iQ m;rw[gV,w7]at n;obtain⟨T,W,k1,k2,k3,k4,k5,k6,k7⟩:=pB iQ n;injection k7 with k8 _ GS
 injection k8 with k8
 subst GS;refine fQ.mono (R w v _ h3 t) λval w' d=>?_
 obtain⟨b,rfl,O,L,I⟩:=d
 have Q:(qi (l.map Int.ofNat)).map (Value.int .u64)=((List.range' 0 l.length).map (oi (l.map Int.ofNat))).map λx=>Value.int .u64 (Int.ofNat x):=by
  unfold qi;rw[rN,rN,jv,xE];rfl
 have M:fW w' b 50 ((((List.range' 0 l.length).map (oi (l.map Int.ofNat))).map λx=>Value.int .u64 (Int.ofNat x))).toArray:=by
  have:=L;unfold UB at this;rwa[Q]at this
 have hu:=RM ρ B
 have K:=g.more (S:=hJ) l.length 1 iB k1 k2 fM (λo x u=>by
  rw[k4 o]at u;obtain⟨v,q1,q2⟩:=hu.get o x u
  grind) k5 k6 (fW.bk M) I (λid o p s1 s2=>⟨by have:=g.below id o p s1 s2;omega,λd=>d⟩) (λb d=>d.elim) (.inl (ly g.old.size O))
 refine⟨_,Up.snoc ρ _,?_,K⟩;rw[<-k8];refine⟨⟨b,l.length,1⟩,?_,gJ _,by grind [maxLen],by grind⟩
 grind [MR.len]
def Nk:td 402 z7:=xq Kg
structure Eb where
 id:Nat
 e:TypeId
 d:Nat
 l:List SV
structure Me where
 n:Nat
 al:List AV
 l0:List Eb
 v:AV
 n1:Nat
 l1:List Eb
def Zv (l:ip SV):Nat:=List.rec (motive:=λ_=>Nat) 0 (λ_ _ d=>Nat.add d 1) l
theorem JO:∀l:ip SV,Zv l=l.length
 |[]=>rfl
 |_::l=>by
  show Nat.add (Zv l) 1=_
  rw[JO l];rfl
def ckE (g:Mem) (x:Eb) (r:Rs):Rs:=NM g x.id λf=>ji (Nat.beq f.e x.e) (Zt f.d f.m 0 (Zv x.l) λl=>ji (lE x.l l) r)
def ckL (f:Mem) (l:ip Eb) (r:Rs):Rs:=List.rec (motive:=λ_=>Rs) r (λx _ d=>ckE f x d) l
def seE (x:Eb) (h:Tr Ob) (c:Tr Ob->Rs):Rs:=fN (Zv x.l) λq=>Cx x.d 0 x.l .nil λm=>x7 dI x.id ⟨x.e,x.d,q,m⟩ h c
def seL (l:ip Eb) (h:Tr Ob) (c:Tr Ob->Rs):Rs:=List.rec (motive:=λ_=>Tr Ob->(Tr Ob->Rs)->Rs) (λh c=>c h) (λx _ d h c=>seE x h λh=>d h c) l h c
def kiL (l:ip Eb) (h:Tr Ob) (c:Tr Ob->Rs):Rs:=List.rec (motive:=λ_=>Tr Ob->(Tr Ob->Rs)->Rs) (λh c=>c h) (λx _ d h c=>x7 dI x.id ⟨0,0,0,.nil⟩ h λh=>d h c) l h c
def tvE (x y:TV):Bool:=match x,y with
 | .v a,.v b=>sE a b
 | .g a,.g b=>lE a b
 |_,_=>false
def tlE (a:ip TV):ip TV->Bool:=List.rec (motive:=λ_=>ip TV->Bool) (λb=>match b with
 |[]=>true
 |_::_=>false) (λx _ d b=>match b with
 |[]=>false
 |y::r=>an (tvE x y) (d r)) a
def avE (x y:AV):Bool:=match x,y with
 | .v a,.v b=>sE a b
 | .g a,.g b=>lE a b
 | .t a,.t b=>tlE a b
 | .f g a,.f d b=>an (Nat.beq g d) (lE a b)
 |_,_=>false
def alE (a:ip AV):ip AV->Bool:=List.rec (motive:=λ_=>ip AV->Bool) (λb=>match b with
 |[]=>true
 |_::_=>false) (λx _ d b=>match b with
 |[]=>false
 |y::r=>an (avE x y) (d r)) a
def meO (m:Me) (al:ip AV) (d:Mem):Rs:=ji (alE m.al al) (ckL d m.l0 (kiL m.l0 d.h λh=>seL m.l1 h λh=> .mk (.val m.v) e0 ⟨m.n1,h,[]⟩))
def jd (es:ip Me) (al:ip AV) (d:Mem):Rs:=List.rec (motive:=λ_=>Rs) .no (λm _ f=>zB (Nat.beq m.n d.n) (meO m al d) f) es
def Vv (m:Me) (r:Rs):Rs:=Rs.rec (motive:=λ_=>Rs) .no (λx _ d=>Ex.rec (motive:=λ_=>Rs) .no (λ_=> .no) (λ_=> .no) .no (λv=>ji (avE m.v v) (ji (Nat.beq m.n1 d.n) (ckL d m.l1 (.mk .ret e0 d)))) x) r
def lD (d:ip (Nat×Fe)) (N f:Nat) (m:Me):Bool:=Rs.rec (motive:=λ_=>Bool) false (λ_ _ _=>true) (seL m.l0 .nil λh=>Vv m (run d N f m.al ⟨m.n,h,[]⟩))
def XV {x y:TV} (h:tvE x y=true):x=y:=by
 cases x with
 |v a=>
  cases y with
  |v b=>have h:sE a b=true:=h;rw[Q7 h]
  |g b=>cases h
 |g a=>
  cases y with
  |v b=>cases h
  |g b=>have h:lE a b=true:=h;rw[Cn h]
theorem PK:∀{a b:ip TV},tlE a b=true->a=b
 |[],[],_=>rfl
 |[],_::_,h=>by cases h
 |_::_,[],h=>by cases h
 |x::a,y::b,h=>by
  obtain⟨h1,d⟩:=jr (show an (tvE x y) (tlE a b)=true from h);rw[XV h1,PK d]
theorem Su {x y:AV} (h:avE x y=true):x=y:=by
 cases x with
 |v a=>
  cases y with
  |v b=>have h:sE a b=true:=h;rw[Q7 h]
  |_=>cases h
 |g a=>
  cases y with
  |g b=>have h:lE a b=true:=h;rw[Cn h]
  |_=>cases h
 |t a=>
  cases y with
  |t b=>have h:tlE a b=true:=h;rw[PK h]
  |_=>cases h
 | f g a=>
  cases y with
  |f d b=>
   obtain⟨h1,m⟩:=jr (show an (Nat.beq g d) (lE a b)=true from h)
   grind [Nat.eq_of_beq_eq_true,Cn]
  |_=>cases h
theorem PN:∀{a b:ip AV},alE a b=true->a=b
 |[],[],_=>rfl
 |[],_::_,h=>by cases h
 |_::_,[],h=>by cases h
 |x::a,y::b,h=>by
  obtain⟨h1,d⟩:=jr (show an (avE x y) (alE a b)=true from h);rw[Su h1,PN d]
def Has (g:Mem) (l:ip Eb):Prop:=∀x∈l,∃f,jF g x.id=some f/\f.e=x.e/\∀i,i<x.l.length->h8 f.d i f.m=x.l[i]?
def IsB (x:Eb) (id:Nat) (f:Ob):Prop:=x.id=id/\f.e=x.e/\f.n=x.l.length/\∀o,h8 f.d o f.m=x.l[o]?
section
variable {res:Rs} (hr:res≠ .no)
include hr
theorem EG {g:Mem} {r:Rs}:∀{l:ip Eb},ckL g l r=res->Has g l/\r=res
 |[],h=>⟨λx B=>(by cases B),h⟩
 |x::l,h=>by
  obtain⟨f,h1,h⟩:=pa hr (show NM g x.id (λf=>ji (Nat.beq f.e x.e) (Zt f.d f.m 0 (Zv x.l) λl'=>ji (lE x.l l') (ckL g l r)))=res from h);obtain⟨C,h⟩:=fS h hr;obtain⟨l',h3,u,h⟩:=yK hr h;obtain⟨t,h⟩:=fS h hr;have t:=Cn t;obtain⟨v,w⟩:=EG h;rw[JO]at h3 u;refine⟨λy n=>?_,w⟩;rcases iu.1 n with rfl|n
  .simp_all
  .exact v y n
theorem EU:∀{l:ip Eb} {h:Tr Ob} {c:Tr Ob->Rs},seL l h c=res->∃n,c n=res/\∀id g,h8 dI id n=some g->(∃x∈l,IsB x id g)\/((∀x∈l,x.id≠id)/\h8 dI id h=some g)
 |[],h,c,f=>⟨h,f,fM⟩
 | x::l,h,c,f=>by
  have f:fN (Zv x.l) (λq=>Cx x.d 0 x.l .nil λm=>x7 dI x.id ⟨x.e,x.d,q,m⟩ h λh=>seL l h c)=res:=f;rw[gV,JO]at f;obtain⟨m,h1,f⟩:=sO hr f;obtain⟨t',u,f⟩:=nG hr f;obtain⟨n,h3,w⟩:=EU f;refine⟨n,h3,λid g C=>?_⟩;rcases w id g C with⟨y,D,B⟩|⟨B,t⟩
  .grind
  .by_cases v:id=x.id
   .subst v;rw[u.1]at t;obtain rfl:=jb t;refine .inl ⟨x,j0,rfl,rfl,rfl,λo=>?_⟩;show h8 x.d o m=_
    rw[h1 o,kG]
    grind
   .refine .inr ⟨λy D=>?_,by rw[<-u.2 id v];exact t⟩
    grind
theorem Lk:∀{l:ip Eb} {h:Tr Ob} {c:Tr Ob->Rs},kiL l h c=res->∃g,c g=res/\∀id f,h8 dI id g=some f->f.m= .nil\/((∀x∈l,x.id≠id)/\h8 dI id h=some f)
 |[],h,c,d=>⟨h,d,fM⟩
 | x::l,h,c,d=>by
  obtain⟨t',t,d⟩:=nG hr (show x7 dI x.id ⟨0,0,0,.nil⟩ h (λh=>kiL l h c)=res from d);obtain⟨g,h3,w⟩:=Lk d;refine⟨g,h3,λid f B=>?_⟩;rcases w id f B with u|⟨u,n⟩
  .exact .inl u
  .by_cases v:id=x.id
   .subst v;rw[t.1]at n;obtain rfl:=jb n;exact .inl fx
   .refine .inr ⟨λy C=>?_,by rw[<-t.2 id v];exact n⟩
    grind
end
def RD {L:ip (Nat×Fe)} (ht:xv L) {N:Nat} {m:Me} (hm:lD L N f m=true) {w0:Fm} {al:ip AV} {I ab:Mem} {a:AV} {e':En} {ρ:Pl} {vs:ip i6} {w:i5} (av:m.n=I.n) (hq:meO m al I= .mk (.val a) e' ab) (ai:Bz ρ al vs) (E:MR w0 ρ I w):fQ prog f vs.toArray w (λval w'=>∃J,Up ρ J/\AR J a val/\MR w0 J ab w'):=by
 obtain⟨h1,h⟩:=fS hq iQ;clear hq;have h1:=PN h1;subst h1;obtain⟨V,h⟩:=EG iQ h;obtain⟨hk,h,h3⟩:=Lk iQ h;obtain⟨hs,h,ae⟩:=EU iQ h;injection h with W _ af
 injection W with W
 subst W;subst af
 have O:(seL m.l0 .nil λh=>Vv m (run L N f m.al ⟨m.n,h,[]⟩))≠ .no:=λu=>by
  simp_all [lD]
 obtain⟨H,aw,T⟩:=EU O (l:=m.l0) (h:= .nil) (c:=λh=>Vv m (run L N f m.al ⟨m.n,h,[]⟩)) rfl;have T:∀id t,h8 dI id H=some t->∃x∈m.l0,IsB x id t:=by grind [kG]
 have U:Vv m (run L N f m.al ⟨m.n,H,[]⟩)≠ .no:=fM
 obtain⟨v1,S,G,an,ap,am,ak⟩:∃v1 S G,run L N f m.al ⟨m.n,H,[]⟩= .mk (.val v1) S G/\m.v=v1/\m.n1=G.n/\Has G m.l1:=by
  generalize hq:run L N f m.al ⟨m.n,H,[]⟩=q at U;cases q with
  |no=>exact absurd rfl U
  | mk x S G=>
   cases x with
   |val v1=>
    have g0:ji (avE m.v v1) (ji (Nat.beq m.n1 G.n) (ckL G m.l1 (.mk .ret e0 G)))≠ .no:=U;obtain⟨g1,g⟩:=fS rfl g0;obtain⟨g2,g⟩:=fS g g0;obtain⟨g3,_⟩:=EG g0 g
    grind [Su,Nat.eq_of_beq_eq_true]
   |_=>exact absurd rfl U
 subst ap
 have ao:∀id o x,ig ⟨m.n,H,[]⟩ id o=some x->ig I id o=some x/\∃y∈m.l0,y.id=id:=λid o x F=>by
  obtain⟨t,q1,q2⟩:=kd.1 F;obtain⟨y,B,q3,_,_,q5⟩:=T id t q1;obtain⟨R,q6,_,q8⟩:=V y B
  grind [List.getElem?_eq_some_iff,kd]
 have ar:∀y∈m.l0,∀(i:Nat),i<y.l.length->(ig I y.id i).isSome=true:=λy B i hi=>by
  obtain⟨R,q6,_,q8⟩:=V y B
  grind [kd,List.getElem?_eq_getElem]
 have Y:BO (λb=>∃id o p,(ig ⟨m.n,H,[]⟩ id o).isSome=true/\ρ[id]? =some p/\p.b=b) w:=w0.ok.of E.old λb Q=>by
  obtain⟨id,o,p,q1,q2,rfl⟩:=Q;obtain⟨x,F⟩:=rB.1 q1;exact E.xF id o p fM q2
 have ag:MR ⟨λb=>∃id o p,(ig ⟨m.n,H,[]⟩ id o).isSome=true/\ρ[id]? =some p/\p.b=b,w,Y⟩ ρ ⟨m.n,H,[]⟩ w:={
  len:=by grind [MR.len]
  gO:=λid t q1 q2=>by
   obtain⟨o,q2⟩:=q2;obtain⟨x,F⟩:=rB.1 q2;obtain⟨y,B,q3,q4,_,q5⟩:=T id t q1;obtain⟨R,q6,q7,q8⟩:=V y B;have aq:∀o x,h8 t.d o t.m=some x->h8 R.d o R.m=some x:=fM;obtain⟨p,cs,r1,r2,r3,r4⟩:=E.gO id R fM fM
   grind
  old:=Fr.refl _ _
  xF:=λid o p q1 q2=> .inr fM
  pre:=λid t q1 o X=>by
   obtain⟨y,B,_,_,q4,q5⟩:=T id t q1
   grind
  apart:=λid C o o' p D O q1 q2 q3 q4=>by
   obtain⟨x,F⟩:=rB.1 q1;obtain⟨x',ax⟩:=rB.1 q2;exact E.apart id C o o' p D O fM fM q3 q4
  AH:=TE.nil _ _ _}
 refine fQ.mono (wy ht N _ f m.al ⟨m.n,H,[]⟩ _ S G ρ vs w an ai ag) λval w' u=>?_
 obtain⟨J,hu,aj,K⟩:=u;refine⟨J,hu,aj,?_⟩
 have off:∀id o p,(ig I id o).isSome=true->ρ[id]? =some p->(∀x∈m.l0,x.id≠id)->¬∃id o D,(ig ⟨m.n,H,[]⟩ id o).isSome=true/\ρ[id]? =some D/\D.b=p.b:=λid o p q1 q2 q3=>by
  rintro⟨Z,o2,p2,r1,r2,r3⟩;obtain⟨x,F⟩:=rB.1 r1;obtain⟨r4,y,B,r5⟩:=ao Z o2 x F;exact E.apart Z id o2 o p2 p fM (by rw[r4];rfl) q1 r2 q2 r3
 have aa:∀b,(Fm.mk (λb=>∃id o p,(ig ⟨m.n,H,[]⟩ id o).isSome=true/\ρ[id]? =some p/\p.b=b) w Y).may b->w0.may b:=λb Q=>by
  rcases Q with Q|⟨id,o,p,r1,r2,rfl⟩
  .exact .inl (ly E.old.size Q)
  .obtain⟨x,F⟩:=rB.1 r1;exact E.xF id o p fM r2
 have cls:∀id t,jF ⟨m.n1,hs,[]⟩ id=some t->(∃o,(h8 t.d o t.m).isSome=true)->(∃x∈m.l1,IsB x id t)\/((∀x∈m.l0,x.id≠id)/\jF I id=some t):=λid t q1 q2=>by
  rcases ae id t q1 with u|⟨_,u⟩
  .exact .inl u
  .rcases h3 id t u with u|u
   .grind [kG]
   .exact .inr u
 have one:∀x∈m.l1,∀id t,IsB x id t->∃SZ,jF G id=some SZ/\SZ.e=t.e/\∀o y,h8 t.d o t.m=some y->h8 SZ.d o SZ.m=some y:=λx F id t hi=>by
  obtain⟨i1,i2,_,i4⟩:=hi;obtain⟨SZ,r1,r2,r3⟩:=ak x F
  grind
 have cell:∀id o,(ig ⟨m.n1,hs,[]⟩ id o).isSome=true->(ig G id o).isSome=true\/((∀x∈m.l0,x.id≠id)/\(ig I id o).isSome=true):=λid o q=>by
  obtain⟨y,B⟩:=rB.1 q;obtain⟨t,q1,q2⟩:=kd.1 B;rcases cls id t q1 ⟨o,by rw[q2];rfl⟩with⟨x,F,hi⟩|⟨r1,r2⟩<;>grind [kd]
 have old:∀id o p,(ig I id o).isSome=true->J[id]? =some p->ρ[id]? =some p:=λid o p q1 q2=>by
  obtain⟨y,B⟩:=rB.1 q1;obtain⟨p0,_,_,_,r1,_⟩:=E.at_ B;have:=hu _ _ r1
  grind
 exact {
  len:=K.len.trans am.symm
  gO:=λid t q1 q2=>by
   rcases cls id t q1 q2 with⟨x,F,hi⟩|⟨r1,r2⟩
   .obtain⟨SZ,r1,r2,r3⟩:=one x F id t hi;obtain⟨o,q2⟩:=q2;obtain⟨y,B⟩:=rB.1 q2;obtain⟨p,cs,s1,s2,s3,s4⟩:=K.gO id SZ r1 fM
    grind
   .obtain⟨p,cs,s1,s2,s3,s4⟩:=E.gO id t r2 q2;obtain⟨o,q2⟩:=q2;obtain⟨y,B⟩:=rB.1 q2;refine⟨p,cs,hu _ _ s1,s2.fr K.old (off id o p (by grind [kd]) s1 r1),s3,λo y B=>?_⟩;obtain⟨v,t1,t2⟩:=s4 o y B;exact⟨v,t1,t2.up hu⟩
  old:=E.old.trans K.old λj au ah=>by
   rcases aa j (.inr ah)with u|u<;>grind
  xF:=λid o p q1 q2=>by
   rcases cell id o q1 with u|⟨_,u⟩
   .exact aa _ (K.xF id o p u q2)
   .exact E.xF id o p u (old id o p u q2)
  pre:=λid t q1 o X=>by
   cases hq:h8 t.d o t.m with
   |none=>rfl
   |some y=>
    rcases cls id t q1 fM with⟨x,F,_,_,i3,i4⟩|⟨_,r2⟩
    .grind
    .rw[E.pre id t r2 o X]at hq;cases hq
  apart:=λid C o o' p D O q1 q2 q3 q4=>by
   have mix:∀id C o o' p D,(ig G id o).isSome=true->J[id]? =some p->(∀x∈m.l0,x.id≠C)->(ig I C o').isSome=true->J[C]? =some D->p.b≠D.b:=λid C o o' p D r1 r2 r3 r4 r5=>by
    have r6:=old C o' D r4 r5;rcases K.xF id o p r1 r2 with u|u
    .have u:w.heap.size<=p.b:=u;have:=E.below C o' D r4 r6;omega
    .intro e;refine off C o' D r4 r6 r3 ?_;rw[<-e];exact u
   rcases cell id o q1 with u|⟨g1,u⟩
   .rcases cell C o' q2 with M|⟨ad,M⟩
    .exact K.apart id C o o' p D O u M q3 q4
    grind
   .rcases cell C o' q2 with M|⟨ad,M⟩
    .grind
    .exact E.apart id C o o' p D O u M (old id o p u q3) (old C o' D M q4)
  AH:=TE.nil _ _ _}
def iR:td f (jd []):=λw0 al m a e' n ρ vs w h g d=>by cases h
def gL {u:ip (Nat×Fe)} (ht:xv u) {N:Nat} {m:Me} {es:ip Me} (hm:lD u N f m=true) (h0:td f (jd es)):td f (jd (m::es)):=λw0 al d a e' v ρ vs w h t g=>by
 have h:zB (Nat.beq m.n d.n) (meO m al d) (jd es al d)= .mk (.val a) e' v:=h;rw[mc]at h;split at h
 .rename_i x;exact RD ht hm lX h t g
 .exact h0 w0 al d a e' v ρ vs w h t g
def TS:xv []:=λx d=>by cases d
def fz {x:Fe} {l:ip (Nat×Fe)} (h:h9 f x) (t:xv l):xv ((f,x)::l):=λy d=>by
 rcases iu.1 d with rfl|d
 .exact h
 .exact t y d
def nv (k:kw) (l:ip Nat):ip SV:=List.rec (motive:=λ_=>ip SV) [] (λx _ d=> .n k x::d) l
