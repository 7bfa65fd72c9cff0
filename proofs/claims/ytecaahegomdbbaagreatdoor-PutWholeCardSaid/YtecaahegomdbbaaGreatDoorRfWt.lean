/- Parts of the proof. -/
import Derived.Test.YtecaahegomdbbaaGreatDoorRfWo
set_option linter.all false
set_option maxRecDepth 100000
set_option maxHeartbeats 64000000
namespace Go.Proofs.YtecaahegomdbbaaGreatDoor.gp
open Go.Proofs.Tryz
open Go.RowKit
section
structure NmS where
 i:Nat
 X:List Tg
 seen:List Int
 v5:Value
 nv:List gG
 S:List En
 v4:Value
 gm:Nat
 B4:Nat
 B5:Nat
structure NmI (t:fY) (g g2:Nat) (vn:Value) (w0:World) (x:NmS) (w:World):Prop where
 perm:x.S.Perm t.es
 zz:x.S.Pairwise x8
 ext:Ext w0 w
 box:w.cell? ⟨g,1,none⟩=some vn
 res:fU w g2 26 #[.slice none 0 0,.slice none 0 0]
 le:x.i<=x.S.length
 len:x.X.length=x.S.length
 rst:(x.X.map Prod.snd).drop x.i=x.S.drop x.i
 go:((x.X.map Prod.snd).take x.i++(iB x.seen (x.S.drop x.i)).1,(iB x.seen (x.S.drop x.i)).2)=iB [] x.S
 inr:(x.S.drop x.i).all (xD t.ns.length)=x.S.all (xD t.ns.length)
 dw:Dw w x.B4 x.v4 x.X
 mp:tY w x.gm (BM x.seen)
 own:Ow gz 12 w x.B5 37 x.v5 x.nv
 sl:x.seen.length<=x.i
 nd:x.nv.map (·.n)=x.seen.map λk=>t.ns.getD k.toNat default
 ndi:∀y∈x.nv,ix w0 y/\y.n∈t.ns
 s1:w0.heap.size<=g2/\g<g2/\g2<x.B4/\g2<x.gm/\x.gm<x.B5/\x.B5<=w.heap.size
 s2:∀b,x.v4.ownBlock=some b->x.X≠[]->b<x.gm
structure YJ where
 j:Nat
 v5:Value
 nv:List gG
 v4:Value
 g11:Nat
 B5:Nat
 t':fY
structure acX (t:fY) (g2:Nat) (w0:World) (x:YJ) (w:World):Prop where
 nt:hN t=some x.t'
 ext:Ext w0 w
 res:fU w g2 26 #[.slice none 0 0,.slice none 0 0]
 xe:fU w x.g11 26 #[x.v4,x.v5]
 le:x.j<=x.nv.length
 agz:x.nv.length<=100
 re:Ow hI 2 w w0.heap.size 49 x.v4 x.t'.es
 own:Ow gz 12 w x.B5 37 x.v5 x.nv
 nd:x.nv.map (·.n)=x.t'.ns
 ndi:∀y∈x.nv,(ix w0 y∨ix w y/\NdF x.g11 y)/\y.n∈t.ns
 s1:w0.heap.size<=g2/\g2<x.B5/\g2<x.g11
 s2:∀b,x.v4.ownBlock=some b->g2<b/\b<x.B5
 s3:∀b,x.v5.ownBlock=some b->b<x.g11
 cp:∀i y,i<x.j->x.nv[i]? =some y->qH w x.g11 y
theorem iN {w:World} {y:gG} (h:ix w y):∀u∈gz y,u.oneCell'=true:=λu hu=>by
 obtain⟨n,c1,f,_⟩:=h.a;obtain⟨s,c2,g,_⟩:=h.c;obtain⟨t,c3,m,_⟩:=h.d;unfold gz at hu;rw[f,g,m]at hu;simp only[hX,sC,or_false]at hu;rcases hu with rfl|rfl|rfl|rfl|rfl|rfl|rfl|rfl|rfl|rfl|rfl|rfl<;>rfl
theorem sR {α:Type} {l:List α} {j:Nat} {a:α} (h:l[j]? =some a):l.set j a=l:=by
 obtain⟨d,rfl⟩:=j0.1 h;exact List.set_getElem_self d
theorem E7 {α:Type} {l:List α} {i:Nat} (h:i<l.length) (a:α):(l.set i a).take (i+1)=l.take i++[a]:=by
 rw[kO,LX h,Va (gJ _)];rfl
theorem O0 (w:World):(zeroValue 3).run prog w= .ok (.int .i64 0) w:=by
 have a:(prog.info? 3).bind (·.zero)=some (.int .i64 0):=by kernel_rfl
 cases hi:prog.info? 3 with
 |none=>rw[hi]at a;cases a
 |some i=>
  rw[hi]at a;simp only[C4]at a;simp[zeroValue,typeInfo,hi,a]
theorem Dw.put {w w':World} {B n c g:Nat} {l l':List Tg} (h:Dw w B (.slice (some ⟨g,0,none⟩) n c) l) (h0:l≠[]) (a:l'.length=l.length) (v:DB (c*2) w' g l'):Dw w' B (.slice (some ⟨g,0,none⟩) n c) l':=by
 obtain⟨A,x,e,h1,s,t⟩:=h;injection e with d f m
 subst d;subst m;obtain⟨y,e4,u,_⟩:=t.resolve_left h0;injection e4 with e4
 injection e4 with e4
 subst e4;exact⟨_,c,by rw[a,f],by rw[a];exact h1,s,.inr ⟨g,rfl,u,v⟩⟩
def Zg (t:fY) (w:World) (r:Value) (w':World):Prop:=Ext w w'/\match hN t with
 |none=>r= .tuple #[.agg #[.slice none 0 0,.slice none 0 0],.int .i64 1]
 |some t'=>∃ve vn fK,r= .tuple #[.agg #[ve,vn],.int .i64 0]/\Er w' w.heap.size ve vn fK t'
def aaS (t:fY) (w:World) (r:Value) (w':World):Prop:=Ext w w'/\match hN t with
 |none=>r= .tuple #[.agg #[.slice none 0 0,.slice none 0 0],.int .i64 1]
 |some t'=>∃ve vn fK,r= .tuple #[.agg #[ve,vn],.int .i64 0]/\nj w' ve vn fK t'
theorem zI (w:World) (ve vn:Value) (fK:List gG) (t:fY) (aH:nj w ve vn fK t) (bR:tu t.ns) (bw:∀n∈t.ns,G0 n):fL prog 37 #[.agg #[ve,vn]] w (Zg t w):=by
 refine gr func37 fx fF ?_;have aI:=aH;obtain⟨A,c,rfl,b5,b6,b1⟩:=aH.e.op gj;obtain⟨aw,aq,rfl,bG,b7,bq⟩:=aH.n.op gI;have hlen:=aH.len;rw[hlen]at bG;refine fA ?_;refine hD fx (λC br bv ch=>?_);have a4:fU C w.heap.size 26 #[.slice A t.es.length c,.slice aw fK.length aq]:=br;have k0:C.cell? ⟨w.heap.size,0,none⟩=some (.slice A t.es.length c):=a4.cell 0;have k1:C.cell? ⟨w.heap.size,1,none⟩=some (.slice aw t.ns.length aq):=by rw[←hlen];exact a4.cell 1
 refine fA ?_;refine gy (z:= .agg #[.slice none 0 0,.slice none 0 0]) fF (λL bs aP ci=>?_);have cl:L.cell? ⟨w.heap.size,0,none⟩=some (.slice A t.es.length c):=aP.cell k0;have bX:L.cell? ⟨w.heap.size,1,none⟩=some (.slice aw t.ns.length aq):=aP.cell k1;have aO:Ext w L:=bv.t aP;have a5:fU L C.heap.size 26 #[.slice none 0 0,.slice none 0 0]:=bs;have N:∀{a b c:World} {g:Nat},Ext a b->Fr (· =g) b c->a.heap.size<=g->Ext a c:=λh1 ad ca=>h1.trans ad λj ah e=>absurd ah fy
 refine fA ?_
 by_cases g1:100<t.es.length
 ·refine iX ?_;refine fA ?_;refine qv (parts:=[]) (cells:= #[.slice none 0 0,.slice none 0 0]) fx fF ?_;refine fA ?_;refine hd a5 fx fx fF fx (fJ (l:=[.slice none 0 0,.slice none 0 0]) fx) (λE bt aR=>?_);refine fA ?_;exact hP fx fx fx bt fF ⟨N aO aR fy,by first|(rw[F2 g1];done)|(rw[F2 g1];exact fx)⟩
 have aC:∀(b:Bool) (S:List En),S.Perm t.es->S.Pairwise x8->(S.all (xD t.ns.length)&&gQ (jw t.ns S))=b->hN t=if b then some (jw t.ns S)else none:=λb S h1 ad aK=>by rw[←RI h1 ad,aK]
 refine vG (α:=NmS) (β:=YJ) 0 1 fV fx fx
  (λx=>[(1,.pointer (some ⟨w.heap.size,0,none⟩)),(2,.pointer (some ⟨C.heap.size,0,none⟩)),(4,x.v4),(5,x.v5),(6,.map (some x.gm)),(7,.int .i64 (x.i:Int))])
  (NmI t w.heap.size C.heap.size (.slice aw t.ns.length aq) w) (λx=>x.S.length-x.i+101)
  (λx=>[(2,.pointer (some ⟨C.heap.size,0,none⟩)),(5,x.v5),(7,.int .i64 (x.j:Int)),(11,.pointer (some ⟨x.g11,0,none⟩))])
  (acX t C.heap.size w) (λx=>x.nv.length-x.j) ?_ ?_ ?_
 ·rintro⟨i,X,seen,v5,nv,S,v4,gm,B4,B5⟩ E ⟨R,aa,F,aT,K,hle,aW,aZ,am,ag,af,ar,v,bU,Q,I,av,T⟩ ah;dsimp only at R aa F aT K hle aW aZ am ag af ar v bU Q I av T ah⊢;obtain⟨q1,q2,q3,q4,q5,q6⟩:=av;have bV:∃ab ao c4,v4= .slice ab ao c4:=by obtain⟨A,c,e,_⟩:=af;exact⟨_,_,_,e⟩
  obtain⟨ab,ao,c4,rfl⟩:=bV;obtain⟨cf,bM⟩:=af.op;obtain⟨aj,c5,rfl,bH,bI⟩:=v.form;have b2:S.length=t.es.length:=R.length_eq;have bh:nv.length=seen.length:=by have:=congrArg List.length Q;simpa using this
  by_cases fW:i<S.length
  ·obtain⟨e,he⟩:∃e,S[i]? =some e:=⟨_,kp fW⟩
   have bF:∃q,X[i]? =some (q,e):=by
    have h1:((X.map Prod.snd).drop i)[0]? =(S.drop i)[0]? :=by rw[aZ]
    rw[Ab,Ab,kS,he,qX]at h1;cases U:X[i]? with
    |none=>rw[U]at h1;cases h1
    |some y=>rw[U]at h1;injection h1 with h1;exact⟨y.1,by rw[←h1]⟩
   obtain⟨q,hq⟩:=bF;obtain⟨path,node⟩:=e;have O:X≠[]:=by rintro rfl;simp at hq
   obtain⟨g4,rfl,cb,aV⟩:=bM.resolve_left O;have b4:=T g4 rfl O;have c1:E.cell? ⟨g4,i*2+1,none⟩=some (.int .i64 node):=aV.cell hq (j:=1) rfl;have aD:S.drop i=⟨path,node⟩::S.drop (i+1):=lT he
   by_cases cm:node<0
   ·have aS:xD t.ns.length ⟨path,node⟩=false:=by unfold xD;rw[decide_eq_false (by dsimp only;omega)];rfl
    exact y7
   by_cases n1:(t.ns.length:Int)<=node
   ·have aS:xD t.ns.length ⟨path,node⟩=false:=by unfold xD;rw[decide_eq_false (p:=node<(t.ns.length:Int)) fy,sO]
    exact y7
   have bN:xD t.ns.length ⟨path,node⟩=true:=by unfold xD;rw[decide_eq_true (by dsimp only;omega),decide_eq_true (by dsimp only;omega)];rfl
   rw[aD,rJ,bN,iU]at ag;rw[aD,iB]at am
   have bj:(X.map Prod.snd).drop (i+1)=S.drop (i+1):=by
    have:=congrArg (List.drop 1) aZ;rwa[rb,rb]at this
   have bc:i<(X.map Prod.snd).length:=by rw[jF];omega
   by_cases hm:node∈seen
   ·rw[if_pos hm]at am;refine Nf ?_;refine xlk underlying146 underlying3 O0 ar fx fx ?_;rw[AM,if_pos hm];simp only[tc,Bd];refine Nf ?_;refine VM aV fx fx fy hq (λG Y s=>?_);refine fA ?_;exact gX fx ⟨_,(by show S.length-(i+1)+101<S.length-i+101;omega),.inl ⟨rfl,⟨i+1,X.set i (q,⟨path,(seen.idxOf node:Int)⟩),seen,_,nv,S,_,gm,B4,B5⟩,sub ⟨rfl,rfl,rfl,rfl,rfl,rfl⟩,⟨R,aa,N F s fy,s.cell aT (show ¬w.heap.size=g4 by omega),K.fr s (show ¬C.heap.size=g4 by omega),fW,(by rw[mo];exact aW),(by dsimp only;rw[qu,List.drop_set,if_pos fy];exact bj),(by dsimp only;rw[←am,qu,E7 bc,j7];rfl),ag,af.put O (mo ..) Y,ar.fr s (show ¬gm=g4 by omega),v.fr s (λb d=>by have:=(v.gH d).1;show ¬b=g4;omega),(by dsimp only;omega),Q,I,⟨q1,q2,q3,q4,q5,by have:=s.size;dsimp only;omega⟩,λb d _=>T b d O⟩,rfl⟩⟩
   ·rw[if_neg hm]at am;obtain⟨k,hk⟩:=lO (show 0<=node by omega);obtain⟨a3,o3,n,bp,_,aY,_,bK⟩:=bq.at_ (i:=k) fy;subst bp;refine Nf ?_;refine xlk underlying146 underlying3 O0 ar fx fx ?_;rw[AM,if_neg hm];simp only[vt,D3];refine fA ?_;refine ZT underlying146 underlying3 ar (by rw[AM,if_neg hm]) fx fx fx (λG a8 s=>?_);rw[bh,←I3]at a8;have H:Ext w G:=N F s fy;have m1:G.cell? ⟨w.heap.size,1,none⟩=some (.slice (some ⟨a3,o3,none⟩) t.ns.length aq):=s.cell aT (show ¬w.heap.size=gm by omega);have aX:∀q u,(gz n)[q]? =some u->G.cell? ⟨a3,o3+k*12+q,none⟩=some u:=λq u hu=>H.cell (bK q u hu)
    repeat' (first|refine gF k (o3+k*12) rfl rfl rfl hk rfl fy ?_|refine fT ?_|fail)
    refine hL (cs:=gz n) fx fx aX ?_;refine fA ?_;refine nY nx fx fx fV fV (λV ay Z bT=>?_);refine fA ?_;have bS:=(v.fr s (λb d=>by have:=(v.gH d).1;show ¬b=gm;omega)).ext Z;have bf:=aI.i n (jS aY);have z4:=s.size;refine jI (B:=B5) (news:=gz n) nx fx fV fx bS fx (gS ay fV fx) fx (iN bf) (by unfold maxLen;omega) fy fy (λv6 ap a9 an _=>?_);have aE:∀x,x<B5->¬(Value.slice aj nv.length c5).ownBlock=some x:=λx U h=>by have:=(v.gH h).1;omega
    have ba:Ow gz 12 ap B5 37 v6 (nv++[n]):=Ow.ext1 (l':=[n]) (by simpa using a9);obtain⟨bZ,c6,rfl,_,_⟩:=a9.form;have aA:Ext w ap:=(H.t Z).trans an λj ah h=>by have:=(v.gH h).1;omega
    have bL:=((aV.fr s (show ¬g4=gm by omega)).ext Z).fr an (aE g4 fy);refine Nf ?_;refine VM bL fx fx fy hq (λbY aM ae=>?_);have co:=ae.size;have cn:=an.size;refine fA ?_;refine gX fx ⟨_,(by show S.length-(i+1)+101<S.length-i+101;omega),.inl ⟨rfl,⟨i+1,X.set i (q,⟨path,(nv.length:Int)⟩),seen++[node],_,nv++[n],S,_,gm,B4,B5⟩,sub ⟨rfl,rfl,rfl,rfl,rfl,rfl⟩,⟨R,aa,N aA ae fy,ae.cell (an.cell (Z.cell m1) (aE w.heap.size fy)) (show ¬w.heap.size=g4 by omega),(((K.fr s (show ¬C.heap.size=gm by omega)).ext Z).fr an (aE _ fy)).fr ae (show ¬C.heap.size=g4 by omega),fW,(by rw[mo];exact aW),(by dsimp only;rw[qu,List.drop_set,if_pos fy];exact bj),(by dsimp only;rw[←am,qu,E7 bc,j7,bh];rfl),ag,af.put O (mo ..) aM,((a8.ext Z).fr an (aE _ fy)).fr ae (show ¬gm=g4 by omega),ba.fr ae (λb d=>by have:=(ba.gH d).1;show ¬b=g4;omega),(by dsimp only;rw[hQ];simp only[iA,kh];omega),(by dsimp only;rw[pE,pE,Q];congr 1;simp only[jm,Pe,hk,jf,aI.getD aY]),?_,⟨q1,q2,q3,q4,q5,by dsimp only;omega⟩,λb d _=>T b d O⟩,rfl⟩⟩;intro y D;rcases iK.1 D with D|D
    ·exact I y D
    ·rw[kl.1 D];exact⟨bf,jS (aI.get aY)⟩
  ·have bO:i=S.length:=fy;subst bO
   have bD:iB [] S=(X.map Prod.snd,seen):=by
    rw[←am,jJ,iB,nk,pG (by rw[jF];omega)]
   rw[jJ,Fq]at ag;have aB:jw t.ns S=⟨X.map Prod.snd,seen.map λk=>t.ns.getD k.toNat default⟩:=by unfold jw;rw[bD]
   refine fA ?_;refine qv (parts:=[(0,.tmp 70),(1,.tmp 71)]) (cells:= #[.slice ab ao c4,.slice aj nv.length c5]) fx (by first|rfl|kernel_rfl) ?_;refine fA ?_;refine gy (z:= .agg #[.slice none 0 0,.slice none 0 0]) fF (λG Y H cj=>?_);have bu:fU G E.heap.size 26 #[.slice none 0 0,.slice none 0 0]:=Y;refine fA ?_;refine hd bu fx fx fF fx (fJ (l:=[.slice ab ao c4,.slice aj nv.length c5]) fx) (λV ay M=>?_);have az:Ext E V:=N H M (gJ _);refine fA ?_;refine gM (t:=26) ay fx fx ?_
   have bb:∀w',Ext E w'->nj w' (.slice ab ao c4) (.slice aj nv.length c5) nv (jw t.ns S):=λw' aN=>by
    rw[aB];exact⟨af.rw.ext aN,v.rw.ext aN,λy D=>(I y D).1.ext (F.t aN),Q⟩
   have bz:tu (jw t.ns S).ns:=by
    rw[aB,←Q];intro m hm;obtain⟨y,D,rfl⟩:=lN.1 hm;exact bR _ (I y D).2
   refine fA ?_;refine fG fx fx (sg V _ _ nv (jw t.ns S) (bb V az) bz) (λr ap ak=>?_);obtain⟨rfl,aA⟩:=ak;have al:=az.t aA;cases hm:gQ (jw t.ns S)with
   |false=>
    have ai:hN t=none:=by have:=aC false S R aa (by rw[hm,sO]);simpa using this
    refine fA ?_;refine qv (parts:=[]) (cells:= #[.slice none 0 0,.slice none 0 0]) fx fF ?_;refine fA ?_;refine hd (K.ext al) fx fx fF fx (fJ (l:=[.slice none 0 0,.slice none 0 0]) fx) (λbY aM ae=>?_);refine fA ?_;exact hP fx fx fx aM fF ⟨N (F.t al) ae fy,by first|(rw[ai];done)|(rw[ai];exact fx)⟩
   |true=>
    have au:hN t=some (jw t.ns S):=by have:=aC true S R aa (by rw[hm,←ag];rfl);simpa using this
    have O:X≠[]:=by rintro rfl;rw[aB]at hm;simp[gQ]at hm
    have bE:=bb ap al;refine fA ?_;refine hv ?_;exact ic (ah ⟨0,.slice aj nv.length c5,nv,.slice ab ao c4,E.heap.size,B5,jw t.ns S⟩ ap ⟨au,F.t al,K.ext al,fU.ext ay aA,iy _,(by dsimp only;omega),(by show Ow hI 2 ap w.heap.size 49 _ (jw t.ns S).es;rw[aB];exact((af.ow O).ext al).mono fy),v.ext al,bE.m,(λy D=>⟨.inl (I y D).1,(I y D).2⟩),⟨q1,by dsimp only;omega,by dsimp only;omega⟩,(λb d=>by have h1:=(af.gH O d).1;have ad:=T b d O;dsimp only at*;omega),(λb d=>(v.gH d).2),λi y hi=>absurd hi (Nat.not_lt_zero _)⟩ (by dsimp only;omega)) (sub ⟨rfl,rfl,rfl,rfl⟩)
 ·rintro⟨j,v5,nv,v4,g11,B5,t'⟩ E ⟨au,F,K,aG,hle,bQ,aF,v,Q,I,av,T,a0,aU⟩ ah;dsimp only at au F K aG hle bQ aF v Q I av T a0 aU ah⊢;obtain⟨q1,q2,q3⟩:=av;obtain⟨aj,c5,rfl,bH,bI⟩:=v.form;obtain⟨ab,c4,rfl,b8,b9⟩:=aF.form;have b0:=aG.lt
  by_cases fW:j<nv.length
  ·obtain⟨W,c6,aJ,cc,cd,_,_,bJ⟩:=gD.go v fy;injection aJ with aJ
   subst aJ;have ce:=a0 W rfl;have U:=kp fW;generalize nv[j]=y at U;have a2:=I y (jS U);have bW:ix E y:=a2.1.elim (λh=>h.ext F) (·.1);have aX:∀q u,(gz y)[q]? =some u->E.cell? ⟨W,j*12+q,none⟩=some u:=λq u hu=>bJ _ u (flat_get gI U hu)
   repeat' (first|refine gF j (j*12) rfl rfl rfl rfl fy fy ?_|refine fT ?_|fail)
   refine hL (cs:=gz y) fx fx aX ?_;refine fG fx fx (DZ E y bW (bw _ a2.2)) (λr G aL=>?_);obtain⟨bn,rfl,a1,bm,H⟩:=aL;have bk:=a1.in;have bl:=a1.f
   repeat' (first|refine gF j (j*12) rfl rfl rfl rfl fy fy ?_|refine fT ?_|fail)
   refine Le gI j (v.ext H) fx fx fx fF (iN bk) fW (λV bC M=>?_);have az:∀{x:gG},ix E x->NdF g11 x->ix V x:=λh1 ad=>(h1.ext H).fr ad M λb d=>by show ¬b=W;omega
   refine fA ?_;refine gX fx ⟨_,(by show(nv.set j bn).length-(j+1)<nv.length-j;rw[mo];omega),.inr ⟨rfl,⟨j+1,_,nv.set j bn,_,g11,B5,t'⟩,sub ⟨rfl,rfl,rfl,rfl⟩,⟨au,N (F.t H) M fy,(K.ext H).fr M (show ¬C.heap.size=W by omega),(aG.ext H).fr M (show ¬g11=W by omega),(by dsimp only;rw[mo];omega),(by dsimp only;rw[mo];omega),(aF.ext H).fr M (λb d=>by have:=T b d;show ¬b=W;omega),bC,?_,?_,⟨q1,q2,q3⟩,T,a0,?_⟩,rfl⟩⟩
   ·dsimp only;rw[qu,bm,sR (by rw[qX,U];rfl)];exact Q
   ·intro z J;rcases AB J with J|rfl
    ·exact⟨(I z J).1.imp id λh=>⟨az h.1 h.2,h.2⟩,(I z J).2⟩
    ·have a7:NdF g11 z:=λb d=>by have:=bl b d;omega
     exact⟨.inr ⟨bk.fr a7 M (λb d=>by show ¬b=W;omega),a7⟩,by rw[bm];exact a2.2⟩
   ·intro i z hi J;dsimp only at hi J⊢
    by_cases e:i=j
    ·subst e;rw[LX fW]at J;injection J with J
     subst J;exact((a1.fr M λb d=>by have:=bl b d;show ¬b=W;omega).mono fy)
    ·rw[List.getElem?_set_ne (λh=>e h.symm)]at J;have ak:=aU i z fy J;exact(ak.ext H).fr M λb d=>by have:=ak.f b d;show ¬b=W;omega
  ·refine fA ?_;refine gM (t:=26) aG fx fx ?_;refine fA ?_;refine hd K fx fx fF fx (fJ (l:=[.slice ab t'.es.length c4,.slice aj nv.length c5]) fx) (λG Y s=>?_);refine fA ?_;refine hP fx fx fx Y fF ⟨N F s fy,?_⟩;rw[au];have cg:∀b,C.heap.size<b->¬b=C.heap.size:=λb d=>fy
   exact⟨_,_,nv,rfl,⟨aF.fr s (λb d=>by have:=T b d;show ¬b=C.heap.size;omega),(v.fr s (λb d=>by have:=(v.gH d).1;show ¬b=C.heap.size;omega)).mono fy,λy D=>by
    obtain⟨i,hi,bP⟩:=Bc D;have ak:=aU i y fy (by rw[kp hi,bP])
    exact(ak.fr s λb d=>by have:=ak.f b d;show ¬b=C.heap.size;omega).mono fy,Q⟩⟩
 ·intro bo H1;refine fA ?_;refine jI (B:=L.heap.size) (news:=t.es.flatMap hI) iZ fx fV fx (gD.nil _ _ _ _) fx (Row.ext aI.e aO) (gl gj _) (mK _) (by unfold maxLen;omega) fy (gJ _) (λv1 E bA aR _=>?_);have F:Ext L E:=aR.mono λ_ _ h=>by cases h
  have bB:Ow hI 2 E L.heap.size 49 v1 ((DL t.es).map Prod.snd):=by rw[Aj];unfold Ow;simpa using bA
  have bd:=Dw.of bB;have ck:(DL t.es).length=t.es.length:=by simp[DL]
  have bg:∀x∈DL t.es,x.2∈t.es:=λx U=>by
   have:=wT (f:=Prod.snd) U;rwa[Aj]at this
  refine fA ?_;refine fG fx fx (xI E L.heap.size v1 85 #[] (λx=>x.2∈t.es) (λx=>(xt t.es x.2:Int)) (DL t.es) bd fy (λg _=>Oc t.es g E) bg (Pd _ _)) (λr G aL=>?_);obtain⟨ax,bi,hs,be,s⟩:=aL;have a6:Ext L G:=F.trans s λj ah h=>by have:=(bd.gH h.1 h.2).1;omega
  have R:(ax.map Prod.snd).Perm t.es:=by have:=bi.map Prod.snd;rwa[Aj]at this
  have aa:(ax.map Prod.snd).Pairwise x8:=by
   rw[zd];refine hs.imp_of_mem λ{a b} b3 d h=>?_
   unfold x8;cases e:ie b.2.path a.2.path with
   |false=>rfl
   |true=>
    have:=(Ki (bg b (bi.mem_iff.1 d)) a.2).1 e;unfold lt at h;have:xt t.es b.2<xt t.es a.2:=this;exfalso;have ad:¬((xt t.es a.2:Int)<xt t.es b.2):=fy;have aK:¬((xt t.es a.2:Int)=xt t.es b.2):=fy;exact h.elim ad λh=>aK h.1
  refine fA ?_;refine aan (λV bx Z bT=>?_);have aQ:Ext L V:=a6.t Z;have z3:=a6.size;refine fA ?_;refine hv ?_;exact ic (bo ⟨0,ax,[],.slice none 0 0,[],ax.map Prod.snd,v1,G.heap.size,L.heap.size,V.heap.size⟩ V ⟨R,aa,aO.t aQ,aQ.cell bX,a5.ext aQ,iy _,ir,rfl,rfl,rfl,be.fr Z (λ_ _ h=>h),bx,Ow.nil _ _ _,iy _,rfl,(λy D=>by cases D),⟨by(try dsimp only);omega,fy,by(try dsimp only);omega,by(try dsimp only);omega,by(try dsimp only);omega,gJ _⟩,λb d h0=>(be.gH h0 d).2⟩) (sub ⟨rfl,rfl,rfl,rfl,rfl,rfl⟩)
end
end Go.Proofs.YtecaahegomdbbaaGreatDoor.gp
