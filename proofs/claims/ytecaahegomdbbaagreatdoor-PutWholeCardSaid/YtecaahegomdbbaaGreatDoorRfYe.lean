/- Parts of the proof. -/
import Derived.Test.YtecaahegomdbbaaGreatDoorRfB9c
import Derived.Test.YtecaahegomdbbaaGreatDoorRfWy
set_option linter.all false
set_option maxRecDepth 100000
set_option maxHeartbeats 64000000
namespace Go.Proofs.YtecaahegomdbbaaGreatDoor.gp
open Go.Proofs.Tryz
open Go.RowKit
variable {g12 u:Nat} {n:Nd} {w w':World} {x:gG} {m:wg}
section
attribute [local irreducible] xs T
theorem Io:∀k:Nat,k<7->(j3.map λs=>Value.string (su s))[k]? =some (.string (su (j3.getD k []))):=by
 intro k hk;have h:k=0∨k=1∨k=2∨k=3∨k=4∨k=5∨k=6:=fy;rcases h with rfl|rfl|rfl|rfl|rfl|rfl|rfl<;>rfl
theorem Hq (k:Nat):(j3.getD k []).length<=3:=by
 by_cases hk:k<7
 ·have h:k=0∨k=1∨k=2∨k=3∨k=4∨k=5∨k=6:=fy;rcases h with rfl|rfl|rfl|rfl|rfl|rfl|rfl<;>decide
 ·rw[kv,A6 (by show 7<=k;omega)]
  decide
def rR (u:Nat):Nd:=⟨2,(u/5% 4096:Nat),(u% 3:Nat),(u% 4:Nat),(u% 1000000:Nat),[],[],0,[],[],0,0⟩
theorem M1 (h:¬u% 11=0):mkNode u=rR u:=by unfold mkNode rR;rw[if_neg h,if_neg h]
theorem Ir (h:u% 11=0):mkNode u={rR u with attrs:=[⟨[117,115,101,114,46,107],118::xu (u% 100)⟩],acl:=[⟨1,7,(u% 8:Nat)⟩,⟨3,0,7⟩]}:=by unfold mkNode rR;rw[if_pos h,if_pos h]
theorem H4 {zs:List Int} {i:Nat} {z:Int} (h:zs[i]? =some z):((zs.take (i+1)).map uN).foldl iw mD=iw (((zs.take i).map uN).foldl iw mD) (uN z):=by
 rw[kO,h,pE,Lo];rfl
theorem wJ (a:nG (m.hx.getD (u% m.hx.length) []) (j3.getD (u/7% 7) [])=none):iw m u=m:=by
 unfold iw;rw[a]
theorem D1 {p:fQ} (d:nG (m.hx.getD (u% m.hx.length) []) (j3.getD (u/7% 7) [])=some p) (a:(fR m.es p).isSome=true):iw m u=m:=by
 unfold iw;rw[d];dsimp only;rw[if_pos a]
theorem F3 {p:fQ} (f:nG (m.hx.getD (u% m.hx.length) []) (j3.getD (u/7% 7) [])=some p) (d:(fR m.es p).isSome=false) (h1:¬u/3% 9<2) (a:u/3% 9=2/\0<m.files.length):iw m u=⟨m.es++[⟨p,(m.files.getD (u/2% m.files.length) 0:Nat)⟩],m.ns,m.hx,m.files⟩:=by
 unfold iw;rw[f];dsimp only;rw[if_neg (by rw[d];decide),if_neg h1,if_pos a]
structure MkB (w0:World) (g3 g12:Nat) (m:wg) (u:Nat) (p:fQ) (ve vn:Value) (nv:List gG) (y:List fQ×List Nat×Value×Value×gG) (w:World):Prop where
 mem:uu w0 g3 {m with hx:=y.1,files:=y.2.1} y.2.2.1 y.2.2.2.1 ve vn nv w
 nod:EM g12 y.2.2.2.2 y.2.2.2.2.n w
 st:iw m u=⟨m.es++[⟨p,(m.ns.length:Int)⟩],m.ns++[y.2.2.2.2.n],y.1,y.2.1⟩
 sz:g12<w.heap.size
theorem EM.put {x':gG} {cs:Array Value} (h:EM g12 x n w) (u:Fr (· =g12) w w') (s:fU w' g12 37 cs) (hc:cs=(gz x').toArray) (f:x'.va=x.va/\x'.n.attrs=x.n.attrs:=by exact⟨rfl,rfl⟩) (g:x'.vc=x.vc/\x'.n.acl=x.n.acl:=by exact⟨rfl,rfl⟩) (m:x'.vd=x.vd/\x'.n.data=x.n.data:=by exact⟨rfl,rfl⟩):EM g12 x' x'.n w':=by
 subst hc;have hk:=h.k.fr u (qM.one h.gH fV);refine⟨s,⟨⟨?_,?_,?_⟩,⟨?_,?_,?_⟩⟩,rfl⟩
 ·rw[f.1,f.2];exact hk.i.a
 ·rw[g.1,g.2];exact hk.i.c
 ·rw[m.1,m.2];exact hk.i.d
 ·rw[f.1];exact hk.t.a
 ·rw[g.1];exact hk.t.c
 ·rw[m.1];exact hk.t.d
theorem EM.set {x':gG} {n':Nd} {a:World} (h:EM g12 x n w) (f:Ext w w') (hk:NG w' x') (d:fU a g12 37 (gz x').toArray) (g:Fr (· =g12) w' a) (m:x'.n=n'):EM g12 x' n' a:=
 ⟨d,hk.fr g (qM.one (h.gH.ext f) fV),m⟩
theorem EM.Uy {S:Nat->Prop} (h:EM g12 x n w) (a:Fr S w w') (d:qM w S) (f:¬S g12):EM g12 x n w':=⟨h.gH.fr a f,h.k.fr a d,h.n⟩
section
variable {w0 w w':World} {g3:Nat} {m:wg} {va vf ve vn:Value} {nv:List gG}
theorem uu.wu {α:Type} {a:α->List Value} {z B t:Nat} {v:Value} {l:List α} (h:uu w0 g3 m va vf ve vn nv w) (hO:Ow a z w B t v l) (ht:t≠26):¬v.ownBlock=some g3:=λd=>by
 obtain⟨cs,hc⟩:=hO.x3 d;exact hc.Br h.xe ht fx
theorem uu.Ej {α:Type} {a:α->List Value} {z B t:Nat} {v:Value} {l:List α} (h:uu w0 g3 m va vf ve vn nv w) (hO:Ow a z w B t v l) (ht:t≠26):¬v.ownBlock=some w0.heap.size:=λd=>by
 obtain⟨cs,hc⟩:=hO.x3 d;exact hc.Br h.res ht fx
theorem uu.hx {f:Value} {ds:List fQ} (h:uu w0 g3 m va vf ve vn nv w) (a:Fr (λb=>va.ownBlock=some b) w w') (hO:Ow qK 1 w' w0.heap.size 9 f ds):uu w0 g3 {m with hx:=ds} f vf ve vn nv w':=
 ⟨h.ext.trans a λj n e=>by have:=(h.od.gH e).1;omega,h.res.fr a (h.Ej h.od fV),h.xe.fr a (h.wu h.od fV),h.oe.fr a λb d e=>h.oe.apart h.od fV d e,h.on.fr a λb d e=>h.on.apart h.od fV d e,hO,h.of.fr a λb d e=>h.of.apart h.od fV d e,h.nd,λy g=>(h.LO y g).fr a (qM.own h.od fV)⟩
theorem uu.acx {f:Value} {fs:List Nat} (h:uu w0 g3 m va vf ve vn nv w) (a:Fr (λb=>vf.ownBlock=some b) w w') (hO:Ow Vh 1 w' w0.heap.size 3 f fs):uu w0 g3 {m with files:=fs} va f ve vn nv w':=
 ⟨h.ext.trans a λj n e=>by have:=(h.of.gH e).1;omega,h.res.fr a (h.Ej h.of fV),h.xe.fr a (h.wu h.of fV),h.oe.fr a λb d e=>h.oe.apart h.of fV d e,h.on.fr a λb d e=>h.on.apart h.of fV d e,h.od.fr a λb d e=>h.od.apart h.of fV d e,hO,h.nd,λy g=>(h.LO y g).fr a (qM.own h.of fV)⟩
structure MkQ (w0:World) (g3:Nat) (m:wg) (va vf ve vn:Value) (nv:List gG) (w:World):Prop where
 ext:Ext w0 w
 res:fU w w0.heap.size 26 #[.slice none 0 0,.slice none 0 0]
 oe:Ow hI 2 w w0.heap.size 49 ve m.es
 on:Ow gz 12 w w0.heap.size 37 vn nv
 od:Ow qK 1 w w0.heap.size 9 va m.hx
 of:Ow Vh 1 w w0.heap.size 3 vf m.files
 nd:nv.map (·.n)=m.ns
 LO:∀y∈nv,NG w y
theorem uu.YL {f:Value} {es:List En} (h:uu w0 g3 m va vf ve vn nv w) (a:Fr (λb=>ve.ownBlock=some b) w w') (hO:Ow hI 2 w' w0.heap.size 49 f es):MkQ w0 g3 {m with es:=es} va vf f vn nv w':=
 ⟨h.ext.trans a λj n e=>by have:=(h.oe.gH e).1;omega,h.res.fr a (h.Ej h.oe fV),hO,h.on.fr a λb d e=>h.on.apart h.oe fV d e,h.od.fr a λb d e=>h.od.apart h.oe fV d e,h.of.fr a λb d e=>h.of.apart h.oe fV d e,h.nd,λy g=>(h.LO y g).fr a (qM.own h.oe fV)⟩
theorem uu.ad5 {g:Value} {f:List gG} (h:uu w0 g3 m va vf ve vn nv w) (a:Fr (λb=>vn.ownBlock=some b) w w') (hO:Ow gz 12 w' w0.heap.size 37 g f) (hk:∀y∈f,y∈nv∨NG w y):MkQ w0 g3 {m with ns:=f.map (·.n)} va vf ve g f w':=
 ⟨h.ext.trans a λj t e=>by have:=(h.on.gH e).1;omega,h.res.fr a (h.Ej h.on fV),h.oe.fr a λb d e=>h.oe.apart h.on fV d e,hO,h.od.fr a λb d e=>h.od.apart h.on fV d e,h.of.fr a λb d e=>h.of.apart h.on fV d e,rfl,λy s=>((hk y s).elim (h.LO y) id).fr a (qM.own h.on fV)⟩
theorem MkQ.tree {cs f:Array Value} (h:MkQ w0 g3 m va vf ve vn nv w) (g:fU w g3 26 cs) (E:w0.heap.size<g3) (s:fU w' g3 26 f) (a:Fr (· =g3) w w') (x:f= #[ve,vn]:=by rfl):uu w0 g3 m va vf ve vn nv w':=by
 subst x
 have d:∀{α:Type} {n:α->List Value} {z B t:Nat} {v:Value} {l:List α},Ow n z w B t v l->t≠26->∀b,v.ownBlock=some b->¬b=g3:=λhO ht b u e=>by
  obtain⟨cs,hc⟩:=hO.x3 u;exact hc.Br g ht e
 exact⟨h.ext.trans a λj C e=>absurd C fy,h.res.fr a (show ¬w0.heap.size=g3 by omega),s,h.oe.fr a (d h.oe fV),h.on.fr a (d h.on fV),h.od.fr a (d h.od fV),h.of.fr a (d h.of fV),h.nd,λy D=>(h.LO y D).fr a (qM.one g fV)⟩
theorem uu.inv {zs:List Int} {i:Nat} (h:uu w0 g3 m va vf ve vn nv w) (hi:i<zs.length/\i<25) (hm:((zs.take (i+1)).map uN).foldl iw mD=m):Xd zs w0 g3 ⟨i+1,m,va,vf,ve,vn,nv⟩ w:=
 ⟨h.ext,hi,hm.symm,h.res,h.xe,h.oe,h.on,h.od,h.of,h.nd,h.LO⟩
end
def N7:fQ:=[116,101,120,116,32]
def T8:fQ:=[32,111,102,32,116,104,105,115,32,97,110,100,32,116,104,97,116,44,32,97,110,100,32,111,102,32,116,104,105,115,32,97,110,100,32,116,104,97,116]
def MkR (w:World) (t:fY) (r:Value) (w':World):Prop:=∃ve vn fK,r= .agg #[ve,vn]/\nj w' ve vn fK t/\Ext w w'
theorem L2 (w:World) (v:Value) (zs:List Int) (em:qZ w v zs):fL prog 7 #[v] w (MkR w (Oi (zs.map uN))):=by
 refine gr func7 fx fF ?_;have aM:∀{a b c:World} {g:Nat},Ext a b->Fr (· =g) b c->a.heap.size<=g->Ext a c:=λh1 aB eZ=>h1.trans aB λj d0 e=>absurd d0 fy
 obtain⟨A,c,rfl,eU,eV,dc⟩:=em;refine fA ?_;refine gy (z:= .agg #[.slice none 0 0,.slice none 0 0]) fF (λa6 bW dm e8=>?_);have dI:fU a6 w.heap.size 26 #[.slice none 0 0,.slice none 0 0]:=bW;refine fA ?_;refine qv (parts:=[]) (cells:=(hI ⟨[],0⟩).toArray) fx fF ?_;refine nY iZ fx fx fV fV (λbl bZ dq fd=>?_);refine qv (cells:= #[.int .i64 493,.int .i64 0,.int .i64 0,.int .i64 9,.slice none 0 0,.slice none 0 0]) fx fF ?_;obtain⟨aQ,bi⟩:∃aQ:gG,aQ=⟨mkRoot,.slice none 0 0,.slice none 0 0,.slice none 0 0⟩:=⟨_,rfl⟩;refine qv (cells:=(gz aQ).toArray) fx (by rw[bi];kernel_rfl) ?_;refine nY nx fx fx fV fV (λbm b0 dr ff=>?_);refine qv (cells:= #[.slice (some ⟨a6.heap.size,0,none⟩) 1 1,.slice (some ⟨bl.heap.size,0,none⟩) 1 1]) fx fF ?_;refine gy (z:= .agg #[.slice none 0 0,.slice none 0 0]) fF (λfv b1 dt fg=>?_);refine hd b1 fx fx fF fx (fJ (l:=[.slice (some ⟨a6.heap.size,0,none⟩) 1 1,.slice (some ⟨bl.heap.size,0,none⟩) 1 1]) fx) (λcT b2 cg=>?_);have bx:Ext bm cT:=aM dt cg (gJ _);refine fA ?_;refine Ia (vs:=[.string (su [])]) kF fx fx fV fV (λu hu=>by rw[kl.1 hu];rfl) (λaO b3 ca fh=>?_);have bz:Ext bm aO:=bx.t ca;have bw:Ext bl aO:=dr.t bz;have al:Ext a6 aO:=dq.t bw;have dk:Ext w aO:=dm.t al;have ep:=bx.size
 have cC:NG aO aQ:=by
  rw[bi];refine⟨⟨Rw.nil _ _ (by unfold maxLen;omega),Rw.nil _ _ (by unfold maxLen;omega),Rw.nil _ _ (by unfold maxLen;omega)⟩,⟨λb I=>?_,λb I=>?_,λb I=>?_⟩⟩
  all_goals cases I
 have bE:Xd zs w bm.heap.size ⟨0,mD,.slice (some ⟨cT.heap.size,0,none⟩) 1 1,.slice none 0 0,.slice (some ⟨a6.heap.size,0,none⟩) 1 1,.slice (some ⟨bl.heap.size,0,none⟩) 1 1,[aQ]⟩ aO:=by
  refine⟨dk,⟨iy _,iy _⟩,rfl,dI.ext al,fU.ext b2 ca,?_,?_,?_,Ow.nil _ _ _,by rw[bi];rfl,λy am=>?_⟩
  ·exact Ow.EE gj (fU.ext bZ bw) fx fy fx fV
  ·exact Ow.EE gI (fU.ext b0 bz) ir fy fx fV
  ·exact Ow.EE oO b3 fx fy fx fV
  ·rw[kl.1 am];exact cC
 refine fA ?_;obtain⟨g3,dZ⟩:∃g3,g3=bm.heap.size:=⟨_,rfl⟩;rw[←dZ]at bE⊢;have bL:w.heap.size<g3:=fy;refine gA (α:=MkW) (λx=>[(0,.slice A zs.length c),(2,.pointer (some ⟨w.heap.size,0,none⟩)),(3,.pointer (some ⟨g3,0,none⟩)),(4,x.va),(5,x.vf),(6,.int .i64 (x.i:Int))]) (Xd zs w g3) (λx=>25-x.i) ⟨0,mD,_,_,_,_,[aQ]⟩ (sub ⟨rfl,rfl,rfl,rfl,rfl,rfl⟩) bE ?_;clear bE cC bi bW bZ b0 b1 b2 b3 cg bx bz bw al ep;rintro⟨i,m,va,vf,ve,vn,nv⟩ L G;have aY:=G.m;have dx:=G.i;dsimp only at aY dx⊢;have cF:=Jw ((zs.take i).map uN) mD B6;rw[←aY]at cF;obtain⟨aj,cG⟩:=cF
 have cG:m.es.length<=26:=by
  have az:mD.es.length=1:=rfl;rw[jF,kt]at cG;omega
 by_cases fW:i<zs.length/\i<25
 ·obtain⟨fW,bM⟩:=fW;obtain⟨b,o,z,rfl,_,eo,dN,_⟩:=qj dc fW;have c7:L.cell? ⟨b,o+i,none⟩=some (.int .i64 z):=G.ext.cell dN;obtain⟨u,hu⟩:∃u,u=uN z:=⟨_,rfl⟩;have fl:u<=18446744073709551615:=hu▸aah z;have el:IntKind.u64.wrap z=(u:Int):=hu▸Zi z;have bg:=H4 eo;rw[←aY,←hu]at bg
  have cont:∀w',Ext L w'->iw m u=m->Xd zs w g3 ⟨i+1,m,va,vf,ve,vn,nv⟩ w':=λw' dj hm=>by
   have h:=G.ext' dj;exact⟨h.ext,⟨fW,bM⟩,by dsimp only;rw[bg,hm],h.res,h.xe,h.oe,h.on,h.od,h.of,h.nd,h.LO⟩
  have ea:Ow qK 1 L w.heap.size 9 va m.hx:=G.od;obtain⟨eN,Y,rfl,_,_⟩:=ea.form;have cx:0<m.hx.length:=tE.2 aj.hx.2;obtain⟨M,eO,ed,e2,e3,_,_,dM⟩:=gD.go G.od cx;injection ed with az a9 bp
  subst az;subst bp;obtain⟨aa,be⟩:∃aa,aa=u% m.hx.length:=⟨_,rfl⟩;have cy:aa<m.hx.length:=be▸u0 _ cx;obtain⟨q,hq⟩:∃q,m.hx[aa]? =some q:=⟨_,kp cy⟩;have cI:m.hx.getD aa []=q:=by rw[kv,hq];rfl
  have ee:q∈m.hx:=jS hq
  have ef:gU q=true:=by
   obtain⟨e,he,h1,_⟩:=aj.hx.1 q ee;rw[←h1];exact aj.path e he
  have bo:L.drew.cell? ⟨M,aa,none⟩=some (.string (su q)):=dM _ _ (by rw[KB];simp[hq]);have dP:((u:Int)% (m.hx.length:Int))=(aa:Int):=by rw[be];exact(L1 u m.hx.length).symm
  have e7:=aj.dl;have eT:m.hx.length<=26:=fy;have d7:=Io (u/7% 7) fy
  repeat' (first|refine kV i (o+i) rfl rfl rfl rfl rfl fW ?_|refine xcv (r:=(u:Int)) rfl rfl rfl el ?_|refine rT ?_|fail)
  refine kZ [44] (λw'=>w'.cell? ⟨M,aa,none⟩=some (.string (su q))) fF (by decide+kernel) bo ?_
  repeat' (first|refine rO rfl rfl (λ_ h=>h) ?_|refine kV aa aa rfl rfl rfl dP fy cy ?_|refine rT ?_|fail)
  refine Ia (vs:=j3.map λs=> .string (su s)) kF fx fx fV fV (λu hu=>by obtain⟨s,_,rfl⟩:=lN.1 hu;rfl) (λaP b4 S ej=>?_) (λw' he=>he.cell bo);have dv:Ext L aP:=(Fr.drew _ _).t S;have c1:aP.cell? ⟨M,aa,none⟩=some (.string (su q)):=S.cell bo
  have c0:aP.cell? ⟨L.drew.heap.size,u/7% 7,none⟩=some (.string (su (j3.getD (u/7% 7) []))):=by
   have:=fU.cell b4 (u/7% 7);rw[pB,d7]at this;exact this
  repeat' (first|refine kV (u/7% 7) (u/7% 7) rfl rfl rfl fy fy fy ?_|refine rT ?_|fail)
  refine fI fx fx (JP aP q (j3.getD (u/7% 7) []) (by have:=lr ef;omega) (by have:=Hq (u/7% 7);omega)) (λr aI db=>?_) (λv w' dJ=>dJ.2.cell c1);obtain⟨rfl,cc⟩:=db;have cb:Ext L aI:=dv.t cc;have bF:=G.ext' cb;obtain⟨ay,aK⟩:∃ay,ay=nG q (j3.getD (u/7% 7) []):=⟨_,rfl⟩;obtain⟨jp,bS,a1⟩:∃jp bS,vl q (j3.getD (u/7% 7) [])=(jp,bS):=⟨_,_,rfl⟩;rw[a1];have cN:fU aI g3 26 #[ve,vn]:=bF.xe;refine fA ?_;refine gM (t:=26) cN fx fx ?_;refine fA ?_;refine fG fx fx (zm aI ve vn m.es jp bF.oe.rw) (λr aH c4=>?_);obtain⟨rfl,b5⟩:=c4;have aW:Ext L aH:=cb.t b5;have bG:nG (m.hx.getD (u% m.hx.length) []) (j3.getD (u/7% 7) [])=ay:=by rw[←be,cI,aK]
  cases aF:(fR m.es jp).isSome with
  | true=>
   refine fA ?_
   have bR:iw m u=m:=by
    cases ao:ay with
    |none=>exact wJ (bG.trans ao)
    |some p=>
     have:=tR (aK.symm.trans ao);rw[a1]at this;injection this with az a9
     subst az;exact D1 (bG.trans ao) aF
   exact y46
  |false=>
  by_cases cD:bS=0
  case neg=>
   refine fA ?_
   have bR:iw m u=m:=by
    cases ao:ay with
    |none=>exact wJ (bG.trans ao)
    |some p=>
     have:=tR (aK.symm.trans ao);rw[a1]at this;injection this with az a9
     exact absurd a9 cD
   exact y46
  subst cD
  obtain⟨p,ch⟩:∃p,ay=some p:=by
   cases ao:ay with
   |none=>
    have:=(IL (aK.symm.trans ao)).2;rw[a1]at this;exact absurd fx this
   |some p=>exact⟨p,rfl⟩
  have cE:=tR (aK.symm.trans ch);rw[a1]at cE;injection cE with d2 _
  subst d2;have au:nG (m.hx.getD (u% m.hx.length) []) (j3.getD (u/7% 7) [])=some jp:=by rw[←be,cI,←aK,ch]
  obtain⟨a7,a5⟩:∃a7:gG,a7=⟨rR u,.slice none 0 0,.slice none 0 0,.slice none 0 0⟩:=⟨_,rfl⟩;have eG:(u:Int)/5% 4096=((u/5% 4096:Nat):Int):=fy;have eH:(u:Int)% 3=((u% 3:Nat):Int):=fy;have eI:(u:Int)% 4=((u% 4:Nat):Int):=fy;have eJ:(u:Int)% 1000000=((u% 1000000:Nat):Int):=fy;refine ku ?_;refine qv (vs:=[(0,.int .i64 ((u/5% 4096:Nat):Int)),(1,.int .i64 ((u% 3:Nat):Int)),(2,.int .i64 ((u% 4:Nat):Int)),(3,.int .i64 ((u% 1000000:Nat):Int))]) (cells:= #[.int .i64 ((u/5% 4096:Nat):Int),.int .i64 ((u% 3:Nat):Int),.int .i64 ((u% 4:Nat):Int),.int .i64 ((u% 1000000:Nat):Int),.slice none 0 0,.slice none 0 0]) (by rw[←eG,←eH,←eI,←eJ];rfl) fF ?_;refine qv (cells:=(gz a7).toArray) fx (by rw[a5];kernel_rfl) ?_;refine gy (z:= .agg tP) fF (λfq bX b7 eh=>?_);refine hd bX fx fx fF fx (fJ (by rw[a5];rfl)) (λT bs bA=>?_);have b6:Ext aH T:=aM b7 bA (gJ _);have du:Ext L T:=aW.t b6;obtain⟨g12,dU⟩:∃g12,g12=aH.heap.size:=⟨_,rfl⟩;rw[←dU]at bs⊢
  have ci:uu w g3 m (.slice (some ⟨M,0,none⟩) m.hx.length Y) vf ve vn nv T:=by
   have h:=G.ext' du;exact⟨h.ext,h.res,h.xe,h.oe,h.on,h.od,h.of,h.nd,h.LO⟩
  have bd:EM g12 a7 (rR u) T:=by
   refine⟨bs,?_,by rw[a5]⟩;rw[a5];refine⟨⟨Rw.nil _ _ (by unfold maxLen;omega),Rw.nil _ _ (by unfold maxLen;omega),Rw.nil _ _ (by unfold maxLen;omega)⟩,⟨λb I=>?_,λb I=>?_,λb I=>?_⟩⟩
   all_goals cases I
  have U:w.heap.size<g12:=by have:=G.ext.size;have:=aW.size;have:=G.xe.lt;omega
  have V:∀b,vn.ownBlock=some b->b<g12:=λb I=>by have:=(G.on.gH I).2;have:=aW.size;omega
  have dV:g12<T.heap.size:=by have:=bA.size;omega
  clear bX b7 eh bA bs b6 b4 S ej c0 cc b5 cN bF
  repeat' (first|refine SB (op:= .eql) (decide (u% 11=0)) rfl rfl rfl (by rw[decide_eq_true_iff];omega) ?_|refine gk0 ?_|refine tL (by kernel_rfl) ?_|refine ox (by kernel_rfl) (by decide+kernel) ?_|refine Om (op:= .rem) rfl rfl rfl (by omega) (by omega) (by omega) ?_|refine Om (op:= .quo) rfl rfl rfl (by omega) (by omega) (by omega) ?_|refine Bh rfl rfl rfl (by omega) (by omega) ?_|refine xG rfl rfl rfl (by omega) (by omega) ?_|refine HF rfl rfl rfl ?_|refine Gy rfl rfl rfl ?_|fail)
  refine qD (α:=gG) (λ_=>[(0,.slice (some ⟨b,o,none⟩) zs.length c),(2,.pointer (some ⟨w.heap.size,0,none⟩)),(3,.pointer (some ⟨g3,0,none⟩)),(4,.slice (some ⟨M,0,none⟩) m.hx.length Y),(5,vf),(6,.int .i64 (i:Int)),(7,.int .u64 (u:Int)),(8,.string (su jp)),(12,.pointer (some ⟨g12,0,none⟩))]) (λx w'=>EM g12 x (mkNode u) w'/\uu w g3 m (.slice (some ⟨M,0,none⟩) m.hx.length Y) vf ve vn nv w'/\g12<w'.heap.size) ?_ ?_
  ·by_cases ba:u% 11=0
   case neg=>
    rw[decide_eq_false ba];refine ku ?_;exact gn ⟨a7,sub ⟨rfl,rfl,rfl,rfl,rfl,rfl,rfl,rfl,rfl⟩,⟨bd.gH,bd.k,by rw[M1 ba];exact bd.n⟩,ci,dV⟩
   rw[decide_eq_true ba];have bU:((u:Int)% 100)=((u% 100:Nat):Int):=fy;have z2:((u:Int)% 8)=((u% 8:Nat):Int):=fy;refine ku ?_;rw[bU];refine fG fx fx (CZ T (u% 100) fy) (λr ag c5=>?_);obtain⟨rfl,rfl⟩:=c5;have eX:=uo (u% 100);obtain⟨at_,cu⟩:∃a:xn,a=⟨[117,115,101,114,46,107],[118]++xu (u% 100)⟩:=⟨_,rfl⟩
   repeat' (first|refine rm (a:=[118]) (b:=xu (u% 100)) rfl rfl (by simp only[iA,kh];omega) ?_|refine rT ?_|fail)
   refine qv (vs:=[(0,.string (su at_.name)),(1,.string (su at_.value))]) (cells:=(jK at_).toArray) (by rw[cu];rfl) fF ?_;refine nY yk fx fx fV fV (λag dd bv e9=>?_);have d:=bd.ext bv;refine ku ?_;refine iq d.gH fx fx fF fx fx (λJ N H=>?_);obtain⟨bT,cP⟩:∃bT:gG,bT=⟨{rR u with attrs:=[at_]},.slice (some ⟨T.heap.size,0,none⟩) 1 1,.slice none 0 0,.slice none 0 0⟩:=⟨_,rfl⟩;have bY:fU J g12 37 (gz bT).toArray:=by rw[cP];rw[a5]at N;exact N
   have dK:fU J T.heap.size 68 (jK at_).toArray:=fU.fr dd H (show ¬T.heap.size=g12 by omega);refine ku ?_;refine qv (cells:=(lh ⟨1,7,(u% 8:Nat)⟩).toArray) (vs:=[(0,.int .i64 1),(1,.int .i64 7),(2,.int .i64 ((u% 8:Nat):Int))]) (by rw[←z2];rfl) fF ?_;refine qv (cells:=(lh ⟨3,0,7⟩).toArray) fx fF ?_;refine adq (css:=[lh ⟨1,7,(u% 8:Nat)⟩,lh ⟨3,0,7⟩]) Eu fx (by intro cs cw;simp only[hX,sC,or_false]at cw;rcases cw with rfl|rfl<;>rfl) fx fV fV fV (λak an f ei=>?_);refine ku ?_;refine iq (fU.ext bY f) fx fx fF fx fx (λW ad C=>?_);obtain⟨bn,ax⟩:∃bn:gG,bn=⟨{rR u with attrs:=[at_],acl:=[⟨1,7,(u% 8:Nat)⟩,⟨3,0,7⟩]},.slice (some ⟨T.heap.size,0,none⟩) 1 1,.slice (some ⟨J.heap.size,0,none⟩) 2 2,.slice none 0 0⟩:=⟨_,rfl⟩;have de:fU W g12 37 (gz bn).toArray:=by rw[ax];rw[cP]at ad;exact ad
   have fm:g12<J.heap.size:=by have:=H.size;have:=bv.size;omega
   have ct:fU W T.heap.size 68 (jK at_).toArray:=(fU.ext dK f).fr C (show ¬T.heap.size=g12 by omega);have cv:fU W J.heap.size 70 ([lh ⟨1,7,(u% 8:Nat)⟩,lh ⟨3,0,7⟩].flatten).toArray:=fU.fr an C (show ¬J.heap.size=g12 by omega);have D:=(ci.ext' bv).node d.gH U V H;have ap:=(D.ext' f).node (fU.ext bY f) U V C;refine ku ?_;refine gn ⟨bn,sub ⟨rfl,rfl,rfl,rfl,rfl,rfl,rfl,rfl,rfl⟩,⟨de,⟨⟨?_,?_,?_⟩,⟨λb I=>?_,λb I=>?_,λb I=>?_⟩⟩,?_⟩,ap,(by have:=C.size;have:=f.size;omega)⟩
   ·rw[ax];exact gS ct fV rfl
   ·rw[ax];exact gS cv fV rfl
   ·rw[ax];exact Rw.nil _ _ (by unfold maxLen;omega)
   ·rw[ax]at I;have e:T.heap.size=b:=by simpa[Value.ownBlock]using I
    exact⟨_,e▸ct⟩
   ·rw[ax]at I;have e:J.heap.size=b:=by simpa[Value.ownBlock]using I
    exact⟨_,e▸cv⟩
   ·rw[ax]at I;cases I
   ·rw[ax,Ir ba,cu];rfl
  rintro ah ag ⟨d,ai,e0⟩;have eY:m.files.length<=26:=by have:=aj.dl;omega
  have en:=ai.of.form;obtain⟨X,Z,rfl,_,_⟩:=en;obtain⟨E,av⟩:∃E,u/3% 9=E:=⟨_,rfl⟩;have d4:(u:Int)/3% 9=(E:Int):=by rw[←av,L1,Int.natCast_ediv];rfl
  repeat' (first|refine gk0 ?_|refine RH rfl ?_|refine Pw rfl ?_|refine tL (by kernel_rfl) ?_|refine ox (by kernel_rfl) (by decide+kernel) ?_|refine Om (op:= .rem) rfl rfl rfl (by omega) (by omega) (by omega) ?_|refine Om (op:= .quo) rfl rfl rfl (by omega) (by omega) (by omega) ?_|refine Bh rfl rfl rfl (by omega) (by omega) ?_|refine xG rfl rfl rfl (by omega) (by omega) ?_|refine HF rfl rfl rfl ?_|refine Gy rfl rfl rfl ?_|fail)
  rw[d4];refine qD (α:=List fQ×List Nat×Value×Value×gG) (λy=>[(0,.slice (some ⟨b,o,none⟩) zs.length c),(2,.pointer (some ⟨w.heap.size,0,none⟩)),(3,.pointer (some ⟨g3,0,none⟩)),(4,y.2.2.1),(5,y.2.2.2.1),(6,.int .i64 (i:Int)),(8,.string (su jp)),(12,.pointer (some ⟨g12,0,none⟩))]) (MkB w g3 g12 m u jp ve vn nv) ?_ ?_
  ·by_cases k1:E<2
   ·have eq:(E:Int)<2:=fy;refine ku ?_;refine iq d.gH fx fx fF fx fx (λJ N H=>?_);have D:=ai.node d.gH U V H;have K:=d.put (x':={ah with n:={ah.n with kind:=1}}) H N rfl;refine ku ?_;refine Ia (vs:=qK jp) kF fx fx fV fV (λu hu=>by rw[kl.1 hu];rfl) (λak an f ei=>?_);have O:=D.ext' f;refine jI (B:=w.heap.size) (news:=qK jp) kF fx fV fx O.od fx (gS an fV fx) fx (λu hu=>by rw[kl.1 hu];rfl) (by unfold maxLen;omega) fy O.ext.size (λcQ W dA C _=>?_);have dB:Ow qK 1 W w.heap.size 9 cQ (m.hx++[jp]):=Ow.ext1 (l':=[jp]) (by simpa using dA);refine ku ?_;refine gn ⟨(m.hx++[jp],m.files,cQ,.slice X m.files.length Z,_),sub ⟨rfl,rfl,rfl,rfl,rfl,rfl,rfl,rfl⟩,⟨O.hx C dB,(K.ext f).Uy C (qM.own O.od fV) (λe=>by obtain⟨cs,hc⟩:=O.od.x3 e;exact hc.Br (K.ext f).gH fV fx),oE au aF (by rw[av];exact .inl ⟨k1,by dsimp only;rw[d.n],rfl,rfl⟩),by have:=H.size;have:=f.size;have:=C.size;omega⟩⟩
   have eq:¬(E:Int)<2:=fy
   by_cases k2:E=2/\0<m.files.length
   ·have er:(E:Int)=2:=fy;have bj:=k2.2;obtain⟨fn,bK⟩:∃fn,fn=u/2% m.files.length:=⟨_,rfl⟩;have cA:fn<m.files.length:=bK▸u0 _ bj;have dR:((u:Int)/2% (m.files.length:Int))=(fn:Int):=by rw[bK];exact(L1 (u/2) m.files.length).symm
    obtain⟨c3,eP,c2,e5,e6,_,_,dO⟩:=gD.go ai.of bj;injection c2 with az a9 bp
    subst az;subst bp;obtain⟨aA,cB⟩:∃aA,m.files[fn]? =some aA:=⟨_,kp cA⟩;have dT:m.files.getD fn 0=aA:=by rw[kv,cB];rfl
    have eQ:ag.drew.cell? ⟨c3,fn,none⟩=some (.int .i64 (aA:Int)):=by
     have:=dO fn (.int .i64 (aA:Int)) (by have:=flat_get TN cB (j:=0) (u:= .int .i64 (aA:Int)) rfl;rwa[ph,kS]at this);exact this
    obtain⟨aS,ce,rfl,_,_⟩:=ai.oe.form;have bV:ag.drew.cell? ⟨g3,0,none⟩=some (.slice aS m.es.length ce):=ai.xe.cell 0;obtain⟨F,a0⟩:∃F:En,F=⟨jp,(aA:Int)⟩:=⟨_,rfl⟩;refine ku ?_;refine wC 14 [170] (λw'=>w'.cell? ⟨g3,0,none⟩=some (.slice aS m.es.length ce)) fF (by decide+kernel) bV ?_
    repeat' (first|refine rO rfl rfl (λ_ h=>h) ?_|refine kV fn fn rfl rfl rfl dR fy cA ?_|refine rT ?_|fail)
    refine qv (vs:=[(0,.string (su F.path)),(1,.int .i64 F.node)]) (cells:=(hI F).toArray) (by rw[a0];rfl) fF ?_;refine nY iZ fx fx fV fV (λJ N dp fa=>?_) (λw' he=>he.cell bV);have dn:Ext ag J:=(Fr.drew _ _).t dp;refine lC ?_;have D:=ai.ext' dn;refine jI (B:=w.heap.size) (news:=hI F) iZ fx fV fx D.oe fx (gS N fV fx) fx (λu hu=>mK [_] u (by simpa using hu)) (by unfold maxLen;omega) fy D.ext.size (λew ak dz ae _=>?_);have cp:Ow hI 2 ak w.heap.size 49 ew (m.es++[F]):=Ow.ext1 (l':=[F]) (by simpa using dz);have O:=D.YL ae cp;obtain⟨eM,AW,rfl,_,_⟩:=cp.form;refine ku ?_;refine iq (D.xe.fr ae (D.wu D.oe fV)) fx fx fF fx fx (λW ad C=>?_);refine ku ?_
    have ek:iw m u=⟨m.es++[F],m.ns,m.hx,m.files⟩:=by
     rw[a0,←dT,bK];exact F3 au aF (by rw[av];exact k1) (by rw[av];exact k2)
    exact gn ⟨⟨i+1,⟨m.es++[F],m.ns,m.hx,m.files⟩,_,_,_,_,nv⟩,sub ⟨rfl,rfl,rfl,rfl,rfl,rfl⟩,(O.tree (D.xe.fr ae (D.wu D.oe fV)) bL ad C).inv ⟨fW,bM⟩ (by rw[bg,ek]),(by show 25-(i+1)<25-i;omega)⟩
   have er:¬((E:Int)=2/\0<m.files.length):=fy
   by_cases k3:E=3
   ·have bj:(E:Int)=3:=fy;have d1:jp.length<=100:=lr (rj au).1
    repeat' (first|refine rm (a:=[46,46,47]) (b:=jp) rfl rfl (by simp only[iA,kh];omega) ?_|refine rT ?_|fail)
    refine iq d.gH fx fx fF fx fx (λJ N H=>?_);have D:=ai.node d.gH U V H;refine ku ?_;refine iq N fx fx fF fx fx (λak an ae=>?_);have O:=D.node N U V ae;have R:=d.put (x':={ah with n:={ah.n with kind:=3,target:=[46,46,47]++jp}}) (H.t ae) an rfl;refine ku ?_;exact gn ⟨(m.hx,m.files,_,.slice X m.files.length Z,_),sub ⟨rfl,rfl,rfl,rfl,rfl,rfl,rfl,rfl⟩,⟨O,R,oE au aF (by rw[av];exact .inr ⟨k1,k2,rfl,.inl ⟨k3,by dsimp only;rw[d.n],rfl⟩⟩),by have:=H.size;have:=ae.size;omega⟩⟩
   have bj:¬(E:Int)=3:=fy
   by_cases k4:E=4
   ·have eu:(E:Int)=4:=fy;have bU:(u:Int)% 300=((u% 300:Nat):Int):=fy;have z2:(u:Int)/2% 300=((u/2% 300:Nat):Int):=fy;refine ku ?_;refine iq d.gH fx fx fF fx fx (λJ N H=>?_);have D:=ai.node d.gH U V H;refine ku ?_;refine iq N fx fx fF fx fx (λak an ae=>?_);have O:=D.node N U V ae;refine ku ?_;refine iq an fx fx fF fx fx (λW ad C=>?_);have ap:=O.node an U V C;rw[bU,z2]at ad;have aZ:=d.put (x':={ah with n:={ah.n with kind:=4,major:=(u% 300:Nat),minor:=(u/2% 300:Nat)}}) ((H.t ae).t C) ad rfl;refine ku ?_;exact gn ⟨(m.hx,m.files,_,.slice X m.files.length Z,_),sub ⟨rfl,rfl,rfl,rfl,rfl,rfl,rfl,rfl⟩,⟨ap,aZ,oE au aF (by rw[av];exact .inr ⟨k1,k2,rfl,.inr (.inl ⟨k3,k4,by dsimp only;rw[d.n],rfl⟩)⟩),by have:=H.size;have:=ae.size;have:=C.size;omega⟩⟩
   have eu:¬(E:Int)=4:=fy
   by_cases k5:E=5
   ·have ev:(E:Int)=5:=fy;refine ku ?_;refine iq d.gH fx fx fF fx fx (λJ N H=>?_);have D:=ai.node d.gH U V H;have K:=d.put (x':={ah with n:={ah.n with kind:=6}}) H N rfl;refine ku ?_;exact gn ⟨(m.hx,m.files,_,.slice X m.files.length Z,_),sub ⟨rfl,rfl,rfl,rfl,rfl,rfl,rfl,rfl⟩,⟨D,K,oE au aF (by rw[av];exact .inr ⟨k1,k2,rfl,.inr (.inr (.inl ⟨k3,k4,k5,by dsimp only;rw[d.n],rfl⟩))⟩),by have:=H.size;omega⟩⟩
   have ev:¬(E:Int)=5:=fy;have aD:=d.ext (Fr.drew hG ag);have z4:(u:Int)% 1000=((u% 1000:Nat):Int):=fy;have z5:(u:Int)/4% 2*600=((u/4% 2*600:Nat):Int):=fy;have eW:=uo (u% 1000);have d9:=xh u
   first|refine pa ?_|refine Bg ?_
   repeat' (first|refine gk0 ?_|refine tL (by kernel_rfl) ?_|refine ox (by kernel_rfl) (by decide+kernel) ?_|refine Om (op:= .rem) rfl rfl rfl (by omega) (by omega) (by omega) ?_|refine Om (op:= .quo) rfl rfl rfl (by omega) (by omega) (by omega) ?_|refine Bh rfl rfl rfl (by omega) (by omega) ?_|refine xG rfl rfl rfl (by omega) (by omega) ?_|refine HF rfl rfl rfl ?_|refine Gy rfl rfl rfl ?_|fail)
   refine Pw fx ?_;refine ng ?_;refine qD (α:=Unit) (λ_=>[(0,.slice (some ⟨b,o,none⟩) zs.length c),(2,.pointer (some ⟨w.heap.size,0,none⟩)),(3,.pointer (some ⟨g3,0,none⟩)),(4,.slice (some ⟨M,0,none⟩) m.hx.length Y),(5,.slice X m.files.length Z),(6,.int .i64 (i:Int)),(7,.int .u64 (u:Int)),(8,.string (su jp)),(12,.pointer (some ⟨g12,0,none⟩)),(13,.int .u64 (E:Int)),(161,.bool false)]) (λ_ w'=>ag=w') ?_ ?_
   ·by_cases eR:E=2
    ·have da:(E:Int)=2:=fy;have eS:(m.files.length:Int)=0:=fy;refine ku ?_;exact gn ⟨(),sub ⟨rfl,rfl,rfl,rfl,rfl,rfl,rfl,rfl,rfl,rfl,rfl⟩,rfl⟩
    ·have da:¬(E:Int)=2:=fy;refine ku ?_;exact gn ⟨(),sub ⟨rfl,rfl,rfl,rfl,rfl,rfl,rfl,rfl,rfl,rfl,rfl⟩,rfl⟩
   rintro _ _ rfl;refine ku ?_;refine qD (α:=gG) (λ_=>[(0,.slice (some ⟨b,o,none⟩) zs.length c),(2,.pointer (some ⟨w.heap.size,0,none⟩)),(3,.pointer (some ⟨g3,0,none⟩)),(4,.slice (some ⟨M,0,none⟩) m.hx.length Y),(5,.slice X m.files.length Z),(6,.int .i64 (i:Int)),(7,.int .u64 (u:Int)),(8,.string (su jp)),(12,.pointer (some ⟨g12,0,none⟩))]) (λx w'=>EM g12 x ((gB (mkNode u) (u/4% 2*600:Nat) (oY (u% 1000))).1) w'/\uu w g3 m (.slice (some ⟨M,0,none⟩) m.hx.length Y) (.slice X m.files.length Z) ve vn nv w'/\g12<w'.heap.size) ?_ ?_
   ·refine wC 12 [104] (λw'=>fU w' g12 37 (gz ah).toArray) fF (by decide+kernel) aD.gH ?_
    repeat' (first|refine Ys rfl rfl rfl fy fy ?_|refine wZ (cs:=gz ah) rfl fF (λw' h j u hu=>by rw[iC,fU.cell h];simpa using hu) ?_|refine rT ?_|fail)
    rw[z4];refine fI fx fx (CZ ag.drew (u% 1000) fy) (λr J c6=>?_) (λr w' h=>by rw[←h.2];exact aD.gH);obtain⟨rfl,rfl⟩:=c6
    repeat' (first|refine Ys rfl rfl rfl fy fy ?_|refine rm (a:=N7) (b:=xu (u% 1000)) rfl rfl (by simp only[N7,iA,kh];omega) ?_|refine rm (a:=N7++xu (u% 1000)) (b:=T8) rfl rfl (by rw[hQ];simp only[N7,T8,iA,kh];omega) ?_|refine rT ?_|fail)
    rw[z5];refine fG fx fx (xk ag.drew ah (u/4% 2*600:Nat) (N7++xu (u% 1000)++T8) aD.k.i (by rw[d.n];exact iy _) (by rw[d.n];exact iy _) (by rw[hQ,hQ];simp only[N7,T8,iA,kh];omega)) (λr ak bq=>?_);obtain⟨a8,rfl,ar,aw,f,a4⟩:=bq;refine ku ?_;refine hd (aD.gH.ext f) fx fx fF fx (fJ (kj ar)) (λW ad C=>?_);refine ku ?_;rw[d.n]at aw;exact gn ⟨a8,sub ⟨rfl,rfl,rfl,rfl,rfl,rfl,rfl,rfl,rfl⟩,aD.set f ⟨ar,a4 aD.k.t⟩ ad C aw,(ai.ext' ((Fr.drew _ _).t f)).node (aD.gH.ext f) U V C,by have:=f.size;have:=C.size;have h0:ag.drew.heap.size=ag.heap.size:=rfl;omega⟩
   obtain⟨n1,a2⟩:∃n1,n1=(gB (mkNode u) (u/4% 2*600:Nat) (oY (u% 1000))).1:=⟨_,rfl⟩;have bQ:fH n1=true:=by rw[a2];exact mA d9 _ _
   rw[←a2];rintro cU J ⟨K,D,dW⟩;have fi:=j2 bQ
   repeat' (first|refine SB (op:= .eql) (decide (u% 2=0)) rfl rfl rfl (by rw[decide_eq_true_iff];omega) ?_|refine gk0 ?_|refine tL (by kernel_rfl) ?_|refine ox (by kernel_rfl) (by decide+kernel) ?_|refine Om (op:= .rem) rfl rfl rfl (by omega) (by omega) (by omega) ?_|refine Om (op:= .quo) rfl rfl rfl (by omega) (by omega) (by omega) ?_|refine Bh rfl rfl rfl (by omega) (by omega) ?_|refine xG rfl rfl rfl (by omega) (by omega) ?_|refine HF rfl rfl rfl ?_|refine Gy rfl rfl rfl ?_|fail)
   refine qD (α:=gG) (λ_=>[(0,.slice (some ⟨b,o,none⟩) zs.length c),(2,.pointer (some ⟨w.heap.size,0,none⟩)),(3,.pointer (some ⟨g3,0,none⟩)),(4,.slice (some ⟨M,0,none⟩) m.hx.length Y),(5,.slice X m.files.length Z),(6,.int .i64 (i:Int)),(7,.int .u64 (u:Int)),(8,.string (su jp)),(12,.pointer (some ⟨g12,0,none⟩))]) (λx w'=>EM g12 x (if u% 2=0 then(gB n1 (u% 90*10:Nat) jp).1 else n1) w'/\uu w g3 m (.slice (some ⟨M,0,none⟩) m.hx.length Y) (.slice X m.files.length Z) ve vn nv w'/\g12<w'.heap.size) ?_ ?_
   ·by_cases aB:u% 2=0
    case neg=>
     rw[decide_eq_false aB,if_neg aB];refine ku ?_;exact gn ⟨cU,sub ⟨rfl,rfl,rfl,rfl,rfl,rfl,rfl,rfl,rfl⟩,K,D,dW⟩
    rw[decide_eq_true aB,if_pos aB];have eK:(u:Int)% 90*10=((u% 90*10:Nat):Int):=fy;have d1:jp.length<=100:=lr (rj au).1
    repeat' (first|refine gM (t:=37) K.gH rfl rfl ?_|refine rT ?_|fail)
    rw[eK];refine fG fx fx (xk J cU (u% 90*10:Nat) jp K.k.i (by rw[K.n];omega) (by rw[K.n];omega) fy) (λr ak bq=>?_);obtain⟨a8,rfl,ar,aw,f,a4⟩:=bq;refine ku ?_;refine hd (K.gH.ext f) fx fx fF fx (fJ (kj ar)) (λW ad C=>?_);refine ku ?_;rw[K.n]at aw;exact gn ⟨a8,sub ⟨rfl,rfl,rfl,rfl,rfl,rfl,rfl,rfl,rfl⟩,K.set f ⟨ar,a4 K.k.t⟩ ad C aw,(D.ext' f).node (K.gH.ext f) U V C,by have:=f.size;have:=C.size;omega⟩
   obtain⟨af,bf⟩:∃af,af=(if u% 2=0 then(gB n1 (u% 90*10:Nat) jp).1 else n1):=⟨_,rfl⟩
   have cH:fH af=true:=by
    rw[bf];split
    ·exact mA bQ _ _
    ·exact bQ
   rw[←bf];rintro cV ak ⟨R,O,dX⟩;have fj:=j2 cH
   have d3:af.kind=2:=by
    rw[bf];split
    ·rw[nc,a2,nc];rfl
    ·rw[a2,nc];rfl
   have dS:n2 u jp (mkNode u)=if u% 5=0 then(ki af (af.size+(u% 7*100:Nat))).1 else af:=by
    unfold n2;dsimp only;rw[←a2,←bf]
   have fk:=(xZ (jc cH d3)).2.2
   repeat' (first|refine SB (op:= .eql) (decide (u% 5=0)) rfl rfl rfl (by rw[decide_eq_true_iff];omega) ?_|refine gk0 ?_|refine tL (by kernel_rfl) ?_|refine ox (by kernel_rfl) (by decide+kernel) ?_|refine Om (op:= .rem) rfl rfl rfl (by omega) (by omega) (by omega) ?_|refine Om (op:= .quo) rfl rfl rfl (by omega) (by omega) (by omega) ?_|refine Bh rfl rfl rfl (by omega) (by omega) ?_|refine xG rfl rfl rfl (by omega) (by omega) ?_|refine HF rfl rfl rfl ?_|refine Gy rfl rfl rfl ?_|fail)
   refine qD (α:=gG) (λ_=>[(0,.slice (some ⟨b,o,none⟩) zs.length c),(2,.pointer (some ⟨w.heap.size,0,none⟩)),(3,.pointer (some ⟨g3,0,none⟩)),(4,.slice (some ⟨M,0,none⟩) m.hx.length Y),(5,.slice X m.files.length Z),(6,.int .i64 (i:Int)),(7,.int .u64 (u:Int)),(8,.string (su jp)),(12,.pointer (some ⟨g12,0,none⟩))]) (λx w'=>EM g12 x (n2 u jp (mkNode u)) w'/\uu w g3 m (.slice (some ⟨M,0,none⟩) m.hx.length Y) (.slice X m.files.length Z) ve vn nv w'/\g12<w'.heap.size) ?_ ?_
   ·rw[dS]
    by_cases bb:u% 5=0
    case neg=>
     rw[decide_eq_false bb,if_neg bb];refine ku ?_;exact gn ⟨cV,sub ⟨rfl,rfl,rfl,rfl,rfl,rfl,rfl,rfl,rfl⟩,R,O,dX⟩
    rw[decide_eq_true bb,if_pos bb];have eL:af.size+(u:Int)% 7*100=af.size+((u% 7*100:Nat):Int):=fy
    have k7:ak.cell? ⟨g12,7,none⟩=some (.int .i64 af.size):=by
     have:=R.gH.cell 7;rw[this,←R.n];rfl
    repeat' (first|refine gM (t:=37) R.gH rfl rfl ?_|refine rT ?_|fail)
    rw[eL];refine fG fx fx (I0 ak cV (af.size+(u% 7*100:Nat)) R.k.i (by rw[R.n];omega) (by rw[R.n];omega)) (λr W c9=>?_);obtain⟨a8,rfl,ar,aw,al,a4⟩:=c9;refine ku ?_;refine hd (R.gH.ext al) fx fx fF fx (fJ (kj ar)) (λbk bt bB=>?_);refine ku ?_;rw[R.n]at aw;exact gn ⟨a8,sub ⟨rfl,rfl,rfl,rfl,rfl,rfl,rfl,rfl,rfl⟩,R.set al ⟨ar,a4 R.k.t⟩ bt bB aw,(O.ext' al).node (R.gH.ext al) U V bB,by have:=al.size;have:=bB.size;omega⟩
   rintro eF W ⟨aZ,ap,e1⟩;have bP:nv.length=m.ns.length:=by have:=congrArg List.length ap.nd;simpa using this
   obtain⟨aT,aV,rfl,_,_⟩:=ap.on.form;have et:W.cell? ⟨g3,1,none⟩=some (.slice aT m.ns.length aV):=by rw[←bP];exact ap.xe.cell 1
   refine ku ?_;refine Ia (vs:=Vh m.ns.length) sB fx fx fV fV (λu hu=>by rw[kl.1 hu];rfl) (λbk bt bc fb=>?_);have Q:=ap.ext' bc;refine jI (B:=w.heap.size) (news:=Vh m.ns.length) sB fx fV fx Q.of fx (gS bt fV fx) fx (λu hu=>by rw[kl.1 hu];rfl) (by unfold maxLen;omega) fy Q.ext.size (λcR cS dC bC _=>?_);have dD:Ow Vh 1 cS w.heap.size 3 cR (m.files++[m.ns.length]):=Ow.ext1 (l':=[m.ns.length]) (by simpa using dC);refine ku ?_;refine gn ⟨(m.hx,m.files++[m.ns.length],.slice (some ⟨M,0,none⟩) m.hx.length Y,cR,eF),sub ⟨rfl,rfl,rfl,rfl,rfl,rfl,rfl,rfl⟩,⟨Q.acx bC dD,?_,oE au aF (by rw[av];exact .inr ⟨k1,k2,rfl,.inr (.inr (.inr ⟨k3,k4,k5,aZ.n,rfl⟩))⟩),by have:=bc.size;have:=bC.size;omega⟩⟩;have:=(aZ.ext bc).Uy bC (qM.own Q.of fV) (λe=>by obtain⟨cs,hc⟩:=Q.of.x3 e;exact hc.Br (aZ.ext bc).gH fV rfl);exact⟨this.gH,this.k,rfl⟩
  rintro⟨ds,fs,ey,eA,aJ⟩ bk ⟨Q,ck,cK,dY⟩;dsimp only at Q ck cK dY⊢;have bP:nv.length=m.ns.length:=by have:=congrArg List.length Q.nd;simpa using this
  have d6:=aj.len;obtain⟨aS,ce,rfl,_,_⟩:=Q.oe.form;obtain⟨aT,aV,rfl,_,_⟩:=Q.on.form;have fo:bk.cell? ⟨g3,0,none⟩=some (.slice aS m.es.length ce):=Q.xe.cell 0;have et:bk.cell? ⟨g3,1,none⟩=some (.slice aT m.ns.length aV):=by rw[←bP];exact Q.xe.cell 1
  obtain⟨F,a0⟩:∃F:En,F=⟨jp,(m.ns.length:Int)⟩:=⟨_,rfl⟩;refine fA ?_;refine qv (vs:=[(0,.string (su F.path)),(1,.int .i64 F.node)]) (cells:=(hI F).toArray) (by rw[a0];rfl) fF ?_;refine nY iZ fx fx fV fV (λcS df b8 fc=>?_);have aq:=Q.ext' b8;have cl:=ck.ext b8;refine jI (B:=w.heap.size) (news:=hI F) iZ fx fV fx aq.oe fx (gS df fV fx) fx (λu hu=>mK [_] u (by simpa using hu)) (by unfold maxLen;dsimp only;omega) (by dsimp only;omega) aq.ext.size (λex eC dE bD _=>?_);have cq:Ow hI 2 eC w.heap.size 49 ex (m.es++[F]):=Ow.ext1 (l':=[F]) (by simpa using dE);have dG:=aq.YL bD cq;have bh:=aq.xe.fr bD (aq.wu aq.oe fV);have cm:=cl.Uy bD (qM.own aq.oe fV) (λe=>by obtain⟨cs,hc⟩:=aq.oe.x3 e;exact hc.Br cl.gH fV rfl);obtain⟨cW,cY,rfl,_,_⟩:=cq.form;refine fA ?_;refine iq bh fx fx fF fx fx (λeD dg cd=>?_);have cj:=dG.tree bh bL dg cd;have cn:=cm.Uy cd (qM.one bh fV) (λe=>cm.gH.Br bh fV e);have fp:eD.cell? ⟨g3,1,none⟩=some (.slice aT nv.length aV):=cj.xe.cell 1;refine fA ?_;refine gM (t:=37) cn.gH fx fx ?_;refine nY nx fx fx fV fV (λft dh b9 fe=>?_);have aL:=cj.ext' b9;have co:=cn.ext b9;refine jI (B:=w.heap.size) (news:=gz aJ) nx fx fV fx aL.on fx (gS dh fV fx) fx (iN co.k.i) (by unfold maxLen;omega) fy aL.ext.size (λv22 eE dF cf _=>?_);have cr:Ow gz 12 eE w.heap.size 37 v22 (nv++[aJ]):=Ow.ext1 (l':=[aJ]) (by simpa using dF)
  have dH:=aL.ad5 cf cr (λy am=>by
   rcases iK.1 am with am|am
   ·exact .inl am
   ·rw[kl.1 am];exact .inr co.k)
  have cL:=aL.xe.fr cf (aL.wu aL.on fV);obtain⟨cX,cZ,rfl,_,_⟩:=cr.form;refine fA ?_;refine iq cL fx fx fF fx fx (λfu di dw=>?_);have dy:=dH.tree cL bL di dw;refine fA ?_;have d5:(nv++[aJ]).map (·.n)=m.ns++[aJ.n]:=by rw[pE,Q.nd];rfl
  refine gn ⟨⟨i+1,_,ey,eA,.slice cW (m.es++[F]).length cY,.slice cX (nv++[aJ]).length cZ,nv++[aJ]⟩,sub ⟨rfl,rfl,rfl,rfl,rfl,rfl⟩,dy.inv ⟨fW,bM⟩ ?_,(by show 25-(i+1)<25-i;omega)⟩;rw[bg,cK,d5,a0]
 ·have dQ:(zs.take i).map uN=(zs.map uN).take 25:=by
   rw[←CQ]
   congr 1
   by_cases h1:i<zs.length
   ·rw[show i=25 by omega]
   ·rw[show i=zs.length by omega,km,pG fy]
  rw[dQ]at aY;have dL:m=uO (zs.map uN):=aY;have eg:(⟨m.es,m.ns⟩:fY)=mkRaw (zs.map uN):=by rw[dL];rfl
  have bO:=zD (zs.map uN);rw[←eg]at bO;have cM:nj L ve vn nv ⟨m.es,m.ns⟩:=⟨G.oe.rw,G.on.rw,λy am=>(G.LO y am).i,G.nd⟩;have cO:N0 ⟨m.es,m.ns⟩:=⟨λn bN=>by have:=j2 (aj.node n bN);omega,λn bN=>by have:=j2 (aj.node n bN);omega,λe he=>by have:=lr (aj.path e he);omega⟩;have d6:=aj.len;have aN:fU L g3 26 #[ve,vn]:=G.xe;have eb:Ow hI 2 L w.heap.size 49 ve m.es:=G.oe;have ec:Ow gz 12 L w.heap.size 37 vn nv:=G.on;obtain⟨aS,ce,rfl,_,_⟩:=eb.form;obtain⟨aT,aV,rfl,_,_⟩:=ec.form;have cJ:=G.res;have cz:=G.ext
  by_cases h1:i<zs.length
  ·have aB:¬i<25:=λh=>fW ⟨h1,h⟩
   exact y18
  ·exact y18
end
end Go.Proofs.YtecaahegomdbbaaGreatDoor.gp
