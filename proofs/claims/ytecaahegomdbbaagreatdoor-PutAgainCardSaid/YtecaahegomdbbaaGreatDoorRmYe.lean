/- Parts of the proof. -/
import Derived.Test.YtecaahegomdbbaaGreatDoorRmB9c
import Derived.Test.YtecaahegomdbbaaGreatDoorRmWy
set_option linter.all false
set_option maxRecDepth 99999
set_option maxHeartbeats 0
namespace Go.Proofs.YtecaahegomdbbaaGreatDoor.gr
open Go.Proofs.Tryz
open Go.RowKit
variable {g12 u:Nat} {n:Nd} {w w':i5} {x:gG} {m:uW}
section
attribute [local irreducible] xs T
def JK:∀k:Nat,k<7->(hY.map λs=>Value.U s)[k]? =some (.U (hY.getD k [])):=by
 intro k hk;have h:k=0\/k=1\/k=2\/k=3\/k=4\/k=5\/k=6:=fy;rcases h with rfl|rfl|rfl|rfl|rfl|rfl|rfl<;>rfl
def Hl (k:Nat):(hY.getD k []).length<=3:=by
 by_cases hk:k<7
 .have h:k=0\/k=1\/k=2\/k=3\/k=4\/k=5\/k=6:=fy;rcases h with rfl|rfl|rfl|rfl|rfl|rfl|rfl<;>decide
 .rw[kW,x0 (by show 7<=k;omega)]
  decide
def so (u:Nat):Nd:=⟨2,(u/5% 4096:Nat),(u% 3:Nat),(u% 4:Nat),(u% 1000000:Nat),[],[],0,[],[],0,0⟩
def OX (h:¬u% 11=0):mkNode u=so u:=by unfold mkNode so;rw[if_neg h,if_neg h]
def Km (h:u% 11=0):mkNode u={so u with attrs:=[⟨[117,115,101,114,46,107],118::yg (u% 100)⟩],acl:=[⟨1,7,(u% 8:Nat)⟩,⟨3,0,7⟩]}:=by unfold mkNode so;rw[if_pos h,if_pos h]
def Gc {zs:ip Int} {i:Nat} {z:Int} (h:zs[i]? =some z):((zs.take (i+1)).map uN).foldl hX mj=hX (((zs.take i).map uN).foldl hX mj) (uN z):=by
 rw[j2,h,pw,ID];rfl
def xd (d:nO (m.hx.getD (u% m.hx.length) []) (hY.getD (u/7% 7) [])=none):hX m u=m:=by
 unfold hX;rw[d]
def Fi {p:fL} (f:nO (m.hx.getD (u% m.hx.length) []) (hY.getD (u/7% 7) [])=some p) (d:(fK m.es p).isSome=true):hX m u=m:=by
 unfold hX;rw[f];dsimp only;rw[if_pos d]
def IB {p:fL} (g:nO (m.hx.getD (u% m.hx.length) []) (hY.getD (u/7% 7) [])=some p) (f:(fK m.es p).isSome=false) (h1:¬u/3% 9<2) (d:u/3% 9=2/\0<m.files.length):hX m u=⟨m.es++[⟨p,(m.files.getD (u/2% m.files.length) 0:Nat)⟩],m.ns,m.hx,m.files⟩:=by
 unfold hX;rw[g];dsimp only;rw[if_neg (by rw[f];decide),if_neg h1,if_pos d]
structure MkB (w0:World) (g3 g12:Nat) (m:uW) (u:Nat) (p:fL) (ve vn:Value) (nv:List gG) (y:List fL×List Nat×Value×Value×gG) (w:World):Prop where
 mem:vD w0 g3 {m with hx:=y.1,files:=y.2.1} y.2.2.1 y.2.2.2.1 ve vn nv w
 nod:FJ g12 y.2.2.2.2 y.2.2.2.2.n w
 st:hX m u=⟨m.es++[⟨p,(m.ns.length:Int)⟩],m.ns++[y.2.2.2.2.n],y.1,y.2.1⟩
 sz:g12<w.heap.size
theorem FJ.put {x':gG} {cs:Array i6} (h:FJ g12 x n w) (v:Fr (· =g12) w w') (u:fW w' g12 37 cs) (hc:cs=(gB x').toArray) (f:x'.va=x.va/\x'.n.attrs=x.n.attrs:=by exact⟨rfl,rfl⟩) (g:x'.vc=x.vc/\x'.n.acl=x.n.acl:=by exact⟨rfl,rfl⟩) (m:x'.vd=x.vd/\x'.n.data=x.n.data:=by exact⟨rfl,rfl⟩):FJ g12 x' x'.n w':=by
 subst hc;have hk:=h.k.fr v (rh.one h.gO fU);refine⟨u,⟨⟨?_,?_,?_⟩,⟨?_,?_,?_⟩⟩,rfl⟩
 .rw[f.1,f.2];exact hk.i.a
 .rw[g.1,g.2];exact hk.i.c
 .rw[m.1,m.2];exact hk.i.d
 .rw[f.1];exact hk.t.a
 .rw[g.1];exact hk.t.c
 .rw[m.1];exact hk.t.d
def FJ.set {x':gG} {n':Nd} {d:i5} (h:FJ g12 x n w) (g:Ext w w') (hk:Nj w' x') (f:fW d g12 37 (gB x').toArray) (m:Fr (· =g12) w' d) (t:x'.n=n'):FJ g12 x' n' d:=
 ⟨f,hk.fr m (rh.one (h.gO.ext g) fU),t⟩
def FJ.Ui {S:Nat->Prop} (h:FJ g12 x n w) (d:Fr S w w') (f:rh w S) (g:¬S g12):FJ g12 x n w':=⟨h.gO.fr d g,h.k.fr d f,h.n⟩
section
variable {w0 w w':i5} {g3:Nat} {m:uW} {va vf ve vn:i6} {nv:ip gG}
def vD.wM {α:Type} {d:α->ip i6} {z B t:Nat} {v:i6} {l:ip α} (h:vD w0 g3 m va vf ve vn nv w) (hO:Ow d z w B t v l) (ht:t≠26):¬v.ownBlock=some g3:=λf=>by
 obtain⟨cs,hc⟩:=hO.za f;exact hc.Dm h.xP ht fx
def vD.EH {α:Type} {d:α->ip i6} {z B t:Nat} {v:i6} {l:ip α} (h:vD w0 g3 m va vf ve vn nv w) (hO:Ow d z w B t v l) (ht:t≠26):¬v.ownBlock=some w0.heap.size:=λf=>by
 obtain⟨cs,hc⟩:=hO.za f;exact hc.Dm h.res ht fx
def vD.hx {g:i6} {ds:ip fL} (h:vD w0 g3 m va vf ve vn nv w) (d:Fr (λb=>va.ownBlock=some b) w w') (hO:Ow qM 1 w' w0.heap.size 9 g ds):vD w0 g3 {m with hx:=ds} g vf ve vn nv w':=
 ⟨h.ext.trans d λj t e=>by have:=(h.od.gO e).1;omega,h.res.fr d (h.EH h.od fU),h.xP.fr d (h.wM h.od fU),h.oe.fr d λb f e=>h.oe.apart h.od fU f e,h.on.fr d λb f e=>h.on.apart h.od fU f e,hO,h.of.fr d λb f e=>h.of.apart h.od fU f e,h.nd,λy n=>(h.Lt y n).fr d (rh.own h.od fU)⟩
def vD.adB {g:i6} {fs:ip Nat} (h:vD w0 g3 m va vf ve vn nv w) (d:Fr (λb=>vf.ownBlock=some b) w w') (hO:Ow WL 1 w' w0.heap.size 3 g fs):vD w0 g3 {m with files:=fs} va g ve vn nv w':=
 ⟨h.ext.trans d λj t e=>by have:=(h.of.gO e).1;omega,h.res.fr d (h.EH h.of fU),h.xP.fr d (h.wM h.of fU),h.oe.fr d λb f e=>h.oe.apart h.of fU f e,h.on.fr d λb f e=>h.on.apart h.of fU f e,h.od.fr d λb f e=>h.od.apart h.of fU f e,hO,h.nd,λy n=>(h.Lt y n).fr d (rh.own h.of fU)⟩
structure MkQ (w0:World) (g3:Nat) (m:uW) (va vf ve vn:Value) (nv:List gG) (w:World):Prop where
 ext:Ext w0 w
 res:fW w w0.heap.size 26 #[.slice none 0 0,.slice none 0 0]
 oe:Ow hR 2 w w0.heap.size 49 ve m.es
 on:Ow gB 12 w w0.heap.size 37 vn nv
 od:Ow qM 1 w w0.heap.size 9 va m.hx
 of:Ow WL 1 w w0.heap.size 3 vf m.files
 nd:nv.map (·.n)=m.ns
 Lt:∀y∈nv,Nj w y
def vD.aan {g:i6} {es:ip En} (h:vD w0 g3 m va vf ve vn nv w) (d:Fr (λb=>ve.ownBlock=some b) w w') (hO:Ow hR 2 w' w0.heap.size 49 g es):MkQ w0 g3 {m with es:=es} va vf g vn nv w':=
 ⟨h.ext.trans d λj t e=>by have:=(h.oe.gO e).1;omega,h.res.fr d (h.EH h.oe fU),hO,h.on.fr d λb f e=>h.on.apart h.oe fU f e,h.od.fr d λb f e=>h.od.apart h.oe fU f e,h.of.fr d λb f e=>h.of.apart h.oe fU f e,h.nd,λy n=>(h.Lt y n).fr d (rh.own h.oe fU)⟩
def vD.adr {t:i6} {g:ip gG} (h:vD w0 g3 m va vf ve vn nv w) (d:Fr (λb=>vn.ownBlock=some b) w w') (hO:Ow gB 12 w' w0.heap.size 37 t g) (hk:∀y∈g,y∈nv\/Nj w y):MkQ w0 g3 {m with ns:=g.map (·.n)} va vf ve t g w':=
 ⟨h.ext.trans d λj v e=>by have:=(h.on.gO e).1;omega,h.res.fr d (h.EH h.on fU),h.oe.fr d λb f e=>h.oe.apart h.on fU f e,hO,h.od.fr d λb f e=>h.od.apart h.on fU f e,h.of.fr d λb f e=>h.of.apart h.on fU f e,rfl,λy u=>((hk y u).elim (h.Lt y) id).fr d (rh.own h.on fU)⟩
def MkQ.tree {cs g:Array i6} (h:MkQ w0 g3 m va vf ve vn nv w) (n:fW w g3 26 cs) (G:w0.heap.size<g3) (x:fW w' g3 26 g) (d:Fr (· =g3) w w') (D:g= #[ve,vn]:=by rfl):vD w0 g3 m va vf ve vn nv w':=by
 subst D
 have f:∀{α:Type} {u:α->ip i6} {z B t:Nat} {v:i6} {l:ip α},Ow u z w B t v l->t≠26->∀b,v.ownBlock=some b->¬b=g3:=λhO ht b C e=>by
  obtain⟨cs,hc⟩:=hO.za C;exact hc.Dm n ht e
 exact⟨h.ext.trans d λj E e=>absurd E fy,h.res.fr d (show ¬w0.heap.size=g3 by omega),x,h.oe.fr d (f h.oe fU),h.on.fr d (f h.on fU),h.od.fr d (f h.od fU),h.of.fr d (f h.of fU),h.nd,λy F=>(h.Lt y F).fr d (rh.one n fU)⟩
def vD.inv {zs:ip Int} {i:Nat} (h:vD w0 g3 m va vf ve vn nv w) (hi:i<zs.length/\i<25) (hm:((zs.take (i+1)).map uN).foldl hX mj=m):Yh zs w0 g3 ⟨i+1,m,va,vf,ve,vn,nv⟩ w:=
 ⟨h.ext,hi,hm.symm,h.res,h.xP,h.oe,h.on,h.od,h.of,h.nd,h.Lt⟩
end
def N4:fL:=[116,101,120,116,32]
def Vf:fL:=[32,111,102,32,116,104,105,115,32,97,110,100,32,116,104,97,116,44,32,97,110,100,32,111,102,32,116,104,105,115,32,97,110,100,32,116,104,97,116]
def MkR (w:i5) (t:fZ) (r:i6) (w':i5):Prop:=∃ve vn fO,r= .agg #[ve,vn]/\mE w' ve vn fO t/\Ext w w'
def LS (w:i5) (v:i6) (zs:ip Int) (em:qW w v zs):fQ prog 7 #[v] w (MkR w (Nr (zs.map uN))):=by
 refine gD func7 fx fE ?_;have aM:∀{a b c:i5} {g:Nat},Ext a b->Fr (· =g) b c->a.heap.size<=g->Ext a c:=λh1 aB eZ=>h1.trans aB λj d0 e=>absurd d0 fy
 obtain⟨A,c,rfl,eU,eV,dc⟩:=em;refine fA ?_;refine gx (z:= .agg #[.slice none 0 0,.slice none 0 0]) fE (λa6 bW dm e8=>?_);have dI:fW a6 w.heap.size 26 #[.slice none 0 0,.slice none 0 0]:=bW;refine fA ?_;refine oQ (parts:=[]) (cells:=(hR ⟨[],0⟩).toArray) fx fE ?_;refine nV iO fx fx fU fU (λbl bZ dq fd=>?_);refine oQ (cells:= #[.I 493,.I 0,.I 0,.I 9,.slice none 0 0,.slice none 0 0]) fx fE ?_;obtain⟨aQ,bi⟩:∃aQ:gG,aQ=⟨mkRoot,.slice none 0 0,.slice none 0 0,.slice none 0 0⟩:=⟨_,rfl⟩;refine oQ (cells:=(gB aQ).toArray) fx (by rw[bi];kernel_rfl) ?_;refine nV mi fx fx fU fU (λbm b0 dr ff=>?_);refine oQ (cells:= #[.S a6.heap.size 0 1 1,.S bl.heap.size 0 1 1]) fx fE ?_;refine gx (z:= .agg #[.slice none 0 0,.slice none 0 0]) fE (λfv b1 dt fg=>?_);refine gY b1 fx fx fE fx (fJ (l:=[.S a6.heap.size 0 1 1,.S bl.heap.size 0 1 1]) fx) (λcT b2 cg=>?_);have bx:Ext bm cT:=aM dt cg (gJ _);refine fA ?_;refine FG (vs:=[.U []]) j5 fx fx fU fU (λu hu=>by rw[jS.1 hu];rfl) (λaO b3 ca fh=>?_);have bz:Ext bm aO:=bx.t ca;have bw:Ext bl aO:=dr.t bz;have al:Ext a6 aO:=dq.t bw;have dk:Ext w aO:=dm.t al;have ep:=bx.size
 have cC:Nj aO aQ:=by
  rw[bi];refine⟨⟨Rw.nil _ _ (by unfold maxLen;omega),Rw.nil _ _ (by unfold maxLen;omega),Rw.nil _ _ (by unfold maxLen;omega)⟩,⟨λb I=>?_,λb I=>?_,λb I=>?_⟩⟩
  all_goals cases I
 have bE:Yh zs w bm.heap.size ⟨0,mj,.S cT.heap.size 0 1 1,.slice none 0 0,.S a6.heap.size 0 1 1,.S bl.heap.size 0 1 1,[aQ]⟩ aO:=by
  refine⟨dk,⟨iF _,iF _⟩,rfl,dI.ext al,fW.ext b2 ca,?_,?_,?_,Ow.nil _ _ _,by rw[bi];rfl,λy am=>?_⟩
  .exact Ow.E7 gi (fW.ext bZ bw) fx fy fx fU
  .exact Ow.E7 gw (fW.ext b0 bz) iB fy fx fU
  .exact Ow.E7 nZ b3 fx fy fx fU
  .rw[jS.1 am];exact cC
 refine fA ?_;obtain⟨g3,dZ⟩:∃g3,g3=bm.heap.size:=⟨_,rfl⟩;rw[<-dZ]at bE|-;have bL:w.heap.size<g3:=fy;refine gC (α:=MkW) (λx=>[(0,.slice A zs.length c),(2,.P w.heap.size),(3,.P g3),(4,x.va),(5,x.vf),(6,.I (x.i:Int))]) (Yh zs w g3) (λx=>25-x.i) ⟨0,mj,_,_,_,_,[aQ]⟩ (sub ⟨rfl,rfl,rfl,rfl,rfl,rfl⟩) bE ?_;clear bE cC bi bW bZ b0 b1 b2 b3 cg bx bz bw al ep;rintro⟨i,m,va,vf,ve,vn,nv⟩ L G;have aY:=G.m;have dx:=G.i;dsimp only at aY dx|-;have cF:=Kx ((zs.take i).map uN) mj DN;rw[<-aY]at cF;obtain⟨aj,cG⟩:=cF
 have cG:m.es.length<=26:=by
  have az:mj.es.length=1:=rfl;rw[jv,kv]at cG;omega
 by_cases fY:i<zs.length/\i<25
 .obtain⟨fY,bM⟩:=fY;obtain⟨b,o,z,rfl,_,eo,dN,_⟩:=pn dc fY;have c7:gc L b (o+i) (.I z):=G.ext.cell dN;obtain⟨u,hu⟩:∃u,u=uN z:=⟨_,rfl⟩;have fl:u<=18446744073709551615:=hu▸RY z;have el:IntKind.u64.wrap z=(u:Int):=hu▸Ph z;have bg:=Gc eo;rw[<-aY,<-hu]at bg
  have cont:∀w',Ext L w'->hX m u=m->Yh zs w g3 ⟨i+1,m,va,vf,ve,vn,nv⟩ w':=λw' dj hm=>by
   have h:=G.ext' dj;exact⟨h.ext,⟨fY,bM⟩,by dsimp only;rw[bg,hm],h.res,h.xP,h.oe,h.on,h.od,h.of,h.nd,h.Lt⟩
  have ea:Ow qM 1 L w.heap.size 9 va m.hx:=G.od;obtain⟨eN,Y,rfl,_,_⟩:=ea.form;have cx:0<m.hx.length:=rP.2 aj.hx.2;obtain⟨M,eO,ed,e2,e3,_,_,dM⟩:=gK.go G.od cx;injection ed with az a9 bp
  subst az;subst bp;obtain⟨aa,be⟩:∃aa,aa=u% m.hx.length:=⟨_,rfl⟩;have cy:aa<m.hx.length:=be▸rE _ cx;obtain⟨q,hq⟩:∃q,m.hx[aa]? =some q:=⟨_,j9 cy⟩;have cI:m.hx.getD aa []=q:=by rw[kW,hq];rfl
  have ee:q∈m.hx:=jT hq
  have ef:gX q=true:=by
   obtain⟨e,he,h1,_⟩:=aj.hx.1 q ee;rw[<-h1];exact aj.path e he
  have bo:gc L.drew M aa (.U q):=dM _ _ (by rw[Mp];simp[hq]);have dP:((u:Int)% (m.hx.length:Int))=(aa:Int):=by rw[be];exact(HQ u m.hx.length).symm
  have e7:=aj.dl;have eT:m.hx.length<=26:=fy;have d7:=JK (u/7% 7) fy
  repeat' (first|refine kt i (o+i) fx fx fx fx fx fY ?_|refine xcv (r:=(u:Int)) fx fx fx el ?_|refine pY ?_|fail)
  refine lk [44] (λw'=>gc w' M aa (.U q)) fE (by decide+kernel) bo ?_
  repeat' (first|refine pG fx fx (λ_ h=>h) ?_|refine kt aa aa fx fx fx dP fy cy ?_|refine pY ?_|fail)
  refine FG (vs:=hY.map λs=> .U s) j5 fx fx fU fU (λu hu=>by obtain⟨s,_,rfl⟩:=lp.1 hu;rfl) (λaP b4 S ej=>?_) (λw' he=>he.cell bo);have dv:Ext L aP:=(Fr.drew _ _).t S;have c1:gc aP M aa (.U q):=S.cell bo
  have c0:aP.cell? ⟨L.drew.heap.size,u/7% 7,none⟩=some (.U (hY.getD (u/7% 7) [])):=by
   have:=fW.cell b4 (u/7% 7);rw[po,d7]at this;exact this
  repeat' (first|refine kt (u/7% 7) (u/7% 7) fx fx fx fy fy fy ?_|refine pY ?_|fail)
  refine fI fx fx (KB aP q (hY.getD (u/7% 7) []) (by have:=kO ef;omega) (by have:=Hl (u/7% 7);omega)) (λr aI db=>?_) (λv w' dJ=>dJ.2.cell c1);obtain⟨rfl,cc⟩:=db;have cb:Ext L aI:=dv.t cc;have bF:=G.ext' cb;obtain⟨ay,aK⟩:∃ay,ay=nO q (hY.getD (u/7% 7) []):=⟨_,rfl⟩;obtain⟨jp,bS,a1⟩:∃jp bS,wc q (hY.getD (u/7% 7) [])=(jp,bS):=⟨_,_,rfl⟩;rw[a1];have cN:fW aI g3 26 #[ve,vn]:=bF.xP;refine fA ?_;refine gR (t:=26) cN fx fx ?_;refine fA ?_;refine fH fx fx (um aI ve vn m.es jp bF.oe.rw) (λr aH c4=>?_);obtain⟨rfl,b5⟩:=c4;have aW:Ext L aH:=cb.t b5;have bG:nO (m.hx.getD (u% m.hx.length) []) (hY.getD (u/7% 7) [])=ay:=by rw[<-be,cI,aK]
  cases aF:(fK m.es jp).isSome with
  | true=>
   refine fA ?_
   have bR:hX m u=m:=by
    cases ao:ay with
    |none=>exact xd (bG.trans ao)
    |some p=>
     have:=uh (aK.symm.trans ao);rw[a1]at this;injection this with az a9
     subst az;exact Fi (bG.trans ao) aF
   exact y48
  |false=>
  by_cases cD:bS=0
  case neg=>
   refine fA ?_
   have bR:hX m u=m:=by
    cases ao:ay with
    |none=>exact xd (bG.trans ao)
    |some p=>
     have:=uh (aK.symm.trans ao);rw[a1]at this;injection this with az a9
     exact absurd a9 cD
   exact y48
  subst cD
  obtain⟨p,ch⟩:∃p,ay=some p:=by
   cases ao:ay with
   |none=>
    have:=(JR (aK.symm.trans ao)).2;rw[a1]at this;exact absurd fx this
   |some p=>exact⟨p,rfl⟩
  have cE:=uh (aK.symm.trans ch);rw[a1]at cE;injection cE with d2 _
  subst d2;have au:nO (m.hx.getD (u% m.hx.length) []) (hY.getD (u/7% 7) [])=some jp:=by rw[<-be,cI,<-aK,ch]
  obtain⟨a7,a5⟩:∃a7:gG,a7=⟨so u,.slice none 0 0,.slice none 0 0,.slice none 0 0⟩:=⟨_,rfl⟩;have eG:(u:Int)/5% 4096=((u/5% 4096:Nat):Int):=fy;have eH:(u:Int)% 3=((u% 3:Nat):Int):=fy;have eI:(u:Int)% 4=((u% 4:Nat):Int):=fy;have eJ:(u:Int)% 1000000=((u% 1000000:Nat):Int):=fy;refine kC ?_;refine oQ (vs:=[(0,.I ((u/5% 4096:Nat):Int)),(1,.I ((u% 3:Nat):Int)),(2,.I ((u% 4:Nat):Int)),(3,.I ((u% 1000000:Nat):Int))]) (cells:= #[.I ((u/5% 4096:Nat):Int),.I ((u% 3:Nat):Int),.I ((u% 4:Nat):Int),.I ((u% 1000000:Nat):Int),.slice none 0 0,.slice none 0 0]) (by rw[<-eG,<-eH,<-eI,<-eJ];rfl) fE ?_;refine oQ (cells:=(gB a7).toArray) fx (by rw[a5];kernel_rfl) ?_;refine gx (z:= .agg tH) fE (λfq bX b7 eh=>?_);refine gY bX fx fx fE fx (fJ (by rw[a5];rfl)) (λT bs bA=>?_);have b6:Ext aH T:=aM b7 bA (gJ _);have du:Ext L T:=aW.t b6;obtain⟨g12,dU⟩:∃g12,g12=aH.heap.size:=⟨_,rfl⟩;rw[<-dU]at bs|-
  have ci:vD w g3 m (.S M 0 m.hx.length Y) vf ve vn nv T:=by
   have h:=G.ext' du;exact⟨h.ext,h.res,h.xP,h.oe,h.on,h.od,h.of,h.nd,h.Lt⟩
  have bd:FJ g12 a7 (so u) T:=by
   refine⟨bs,?_,by rw[a5]⟩;rw[a5];refine⟨⟨Rw.nil _ _ (by unfold maxLen;omega),Rw.nil _ _ (by unfold maxLen;omega),Rw.nil _ _ (by unfold maxLen;omega)⟩,⟨λb I=>?_,λb I=>?_,λb I=>?_⟩⟩
   all_goals cases I
  have U:w.heap.size<g12:=by have:=G.ext.size;have:=aW.size;have:=G.xP.lt;omega
  have V:∀b,vn.ownBlock=some b->b<g12:=λb I=>by have:=(G.on.gO I).2;have:=aW.size;omega
  have dV:g12<T.heap.size:=by have:=bA.size;omega
  clear bX b7 eh bA bs b6 b4 S ej c0 cc b5 cN bF
  repeat' (first|refine TZ (op:= .eql) (decide (u% 11=0)) fx fx fx (by rw[decide_eq_true_iff];omega) ?_|refine gk0 ?_|refine ur (by kernel_rfl) ?_|refine oD (by kernel_rfl) (by decide+kernel) ?_|refine O1 (op:= .rem) fx fx fx (by omega) (by omega) (by omega) ?_|refine O1 (op:= .quo) fx fx fx (by omega) (by omega) (by omega) ?_|refine B1 fx fx fx (by omega) (by omega) ?_|refine ya fx fx fx (by omega) (by omega) ?_|refine GP fx fx fx ?_|refine FT fx fx fx ?_|fail)
  refine p5 (α:=gG) (λ_=>[(0,.S b o zs.length c),(2,.P w.heap.size),(3,.P g3),(4,.S M 0 m.hx.length Y),(5,vf),(6,.I (i:Int)),(7,.int .u64 (u:Int)),(8,.U jp),(12,.P g12)]) (λx w'=>FJ g12 x (mkNode u) w'/\vD w g3 m (.S M 0 m.hx.length Y) vf ve vn nv w'/\g12<w'.heap.size) ?_ ?_
  .by_cases ba:u% 11=0
   case neg=>
    rw[decide_eq_false ba];refine kC ?_;exact gl ⟨a7,sub ⟨rfl,rfl,rfl,rfl,rfl,rfl,rfl,rfl,rfl⟩,⟨bd.gO,bd.k,by rw[OX ba];exact bd.n⟩,ci,dV⟩
   rw[decide_eq_true ba];have bU:((u:Int)% 100)=((u% 100:Nat):Int):=fy;have z2:((u:Int)% 8)=((u% 8:Nat):Int):=fy;refine kC ?_;rw[bU];refine fH fx fx (Cr T (u% 100) fy) (λr ag c5=>?_);obtain⟨rfl,rfl⟩:=c5;have eX:=vt (u% 100);obtain⟨at_,cu⟩:∃a:xB,a=⟨[117,115,101,114,46,107],[118]++yg (u% 100)⟩:=⟨_,rfl⟩
   repeat' (first|refine qN (a:=[118]) (b:=yg (u% 100)) fx fx (by simp only[iP,kL];omega) ?_|refine pY ?_|fail)
   refine oQ (vs:=[(0,.U at_.name),(1,.U at_.value)]) (cells:=(jO at_).toArray) (by rw[cu];rfl) fE ?_;refine nV yr fx fx fU fU (λag dd bv e9=>?_);have d:=bd.ext bv;refine kC ?_;refine ir d.gO fx fx fE fx fx (λJ N H=>?_);obtain⟨bT,cP⟩:∃bT:gG,bT=⟨{so u with attrs:=[at_]},.S T.heap.size 0 1 1,.slice none 0 0,.slice none 0 0⟩:=⟨_,rfl⟩;have bY:fW J g12 37 (gB bT).toArray:=by rw[cP];rw[a5]at N;exact N
   have dK:fW J T.heap.size 68 (jO at_).toArray:=fW.fr dd H (show ¬T.heap.size=g12 by omega);refine kC ?_;refine oQ (cells:=(lA ⟨1,7,(u% 8:Nat)⟩).toArray) (vs:=[(0,.I 1),(1,.I 7),(2,.I ((u% 8:Nat):Int))]) (by rw[<-z2];rfl) fE ?_;refine oQ (cells:=(lA ⟨3,0,7⟩).toArray) fx fE ?_;refine adh (css:=[lA ⟨1,7,(u% 8:Nat)⟩,lA ⟨3,0,7⟩]) Fy fx (by intro cs cw;simp only[iu,tf,or_false]at cw;rcases cw with rfl|rfl<;>rfl) fx fU fU fU (λak an f ei=>?_);refine kC ?_;refine ir (fW.ext bY f) fx fx fE fx fx (λW ad C=>?_);obtain⟨bn,ax⟩:∃bn:gG,bn=⟨{so u with attrs:=[at_],acl:=[⟨1,7,(u% 8:Nat)⟩,⟨3,0,7⟩]},.S T.heap.size 0 1 1,.S J.heap.size 0 2 2,.slice none 0 0⟩:=⟨_,rfl⟩;have de:fW W g12 37 (gB bn).toArray:=by rw[ax];rw[cP]at ad;exact ad
   have fm:g12<J.heap.size:=by have:=H.size;have:=bv.size;omega
   have ct:fW W T.heap.size 68 (jO at_).toArray:=(fW.ext dK f).fr C (show ¬T.heap.size=g12 by omega);have cv:fW W J.heap.size 70 ([lA ⟨1,7,(u% 8:Nat)⟩,lA ⟨3,0,7⟩].flatten).toArray:=fW.fr an C (show ¬J.heap.size=g12 by omega);have D:=(ci.ext' bv).node d.gO U V H;have ap:=(D.ext' f).node (fW.ext bY f) U V C;refine kC ?_;refine gl ⟨bn,sub ⟨rfl,rfl,rfl,rfl,rfl,rfl,rfl,rfl,rfl⟩,⟨de,⟨⟨?_,?_,?_⟩,⟨λb I=>?_,λb I=>?_,λb I=>?_⟩⟩,?_⟩,ap,(by have:=C.size;have:=f.size;omega)⟩
   .rw[ax];exact gQ ct fU rfl
   .rw[ax];exact gQ cv fU rfl
   .rw[ax];exact Rw.nil _ _ (by unfold maxLen;omega)
   .rw[ax]at I;have e:T.heap.size=b:=by simpa[Value.ownBlock]using I
    exact⟨_,e▸ct⟩
   .rw[ax]at I;have e:J.heap.size=b:=by simpa[Value.ownBlock]using I
    exact⟨_,e▸cv⟩
   .rw[ax]at I;cases I
   .rw[ax,Km ba,cu];rfl
  rintro ah ag ⟨d,ai,e0⟩;have eY:m.files.length<=26:=by have:=aj.dl;omega
  have en:=ai.of.form;obtain⟨X,Z,rfl,_,_⟩:=en;obtain⟨E,av⟩:∃E,u/3% 9=E:=⟨_,rfl⟩;have d4:(u:Int)/3% 9=(E:Int):=by rw[<-av,HQ,Int.natCast_ediv];rfl
  repeat' (first|refine gk0 ?_|refine O6 fx ?_|refine RN fx ?_|refine ur (by kernel_rfl) ?_|refine oD (by kernel_rfl) (by decide+kernel) ?_|refine O1 (op:= .rem) fx fx fx (by omega) (by omega) (by omega) ?_|refine O1 (op:= .quo) fx fx fx (by omega) (by omega) (by omega) ?_|refine B1 fx fx fx (by omega) (by omega) ?_|refine ya fx fx fx (by omega) (by omega) ?_|refine GP fx fx fx ?_|refine FT fx fx fx ?_|fail)
  rw[d4];refine p5 (α:=ip fL×ip Nat×i6×i6×gG) (λy=>[(0,.S b o zs.length c),(2,.P w.heap.size),(3,.P g3),(4,y.2.2.1),(5,y.2.2.2.1),(6,.I (i:Int)),(8,.U jp),(12,.P g12)]) (MkB w g3 g12 m u jp ve vn nv) ?_ ?_
  .by_cases k1:E<2
   .have eq:(E:Int)<2:=fy;refine kC ?_;refine ir d.gO fx fx fE fx fx (λJ N H=>?_);have D:=ai.node d.gO U V H;have K:=d.put (x':={ah with n:={ah.n with kind:=1}}) H N rfl;refine kC ?_;refine FG (vs:=qM jp) j5 fx fx fU fU (λu hu=>by rw[jS.1 hu];rfl) (λak an f ei=>?_);have O:=D.ext' f;refine jH (B:=w.heap.size) (news:=qM jp) j5 fx fU fx O.od fx (gQ an fU fx) fx (λu hu=>by rw[jS.1 hu];rfl) (by unfold maxLen;omega) fy O.ext.size (λcQ W dA C _=>?_);have dB:Ow qM 1 W w.heap.size 9 cQ (m.hx++[jp]):=Ow.ext1 (l':=[jp]) (by simpa using dA);refine kC ?_;refine gl ⟨(m.hx++[jp],m.files,cQ,.slice X m.files.length Z,_),sub ⟨rfl,rfl,rfl,rfl,rfl,rfl,rfl,rfl⟩,⟨O.hx C dB,(K.ext f).Ui C (rh.own O.od fU) (λe=>by obtain⟨cs,hc⟩:=O.od.za e;exact hc.Dm (K.ext f).gO fU fx),oj au aF (by rw[av];exact .inl ⟨k1,by dsimp only;rw[d.n],rfl,rfl⟩),by have:=H.size;have:=f.size;have:=C.size;omega⟩⟩
   have eq:¬(E:Int)<2:=fy
   by_cases k2:E=2/\0<m.files.length
   .have er:(E:Int)=2:=fy;have bj:=k2.2;obtain⟨fn,bK⟩:∃fn,fn=u/2% m.files.length:=⟨_,rfl⟩;have cA:fn<m.files.length:=bK▸rE _ bj;have dR:((u:Int)/2% (m.files.length:Int))=(fn:Int):=by rw[bK];exact(HQ (u/2) m.files.length).symm
    obtain⟨c3,eP,c2,e5,e6,_,_,dO⟩:=gK.go ai.of bj;injection c2 with az a9 bp
    subst az;subst bp;obtain⟨aA,cB⟩:∃aA,m.files[fn]? =some aA:=⟨_,j9 cA⟩;have dT:m.files.getD fn 0=aA:=by rw[kW,cB];rfl
    have eQ:ag.drew.cell? ⟨c3,fn,none⟩=some (.I (aA:Int)):=by
     have:=dO fn (.I (aA:Int)) (by have:=flat_get Vz cB (j:=0) (u:= .I (aA:Int)) rfl;rwa[oR,kB]at this);exact this
    obtain⟨aS,ce,rfl,_,_⟩:=ai.oe.form;have bV:gc ag.drew g3 0 (.slice aS m.es.length ce):=ai.xP.cell 0;obtain⟨F,a0⟩:∃F:En,F=⟨jp,(aA:Int)⟩:=⟨_,rfl⟩;refine kC ?_;refine tY 14 [170] (λw'=>gc w' g3 0 (.slice aS m.es.length ce)) fE (by decide+kernel) bV ?_
    repeat' (first|refine pG fx fx (λ_ h=>h) ?_|refine kt fn fn fx fx fx dR fy cA ?_|refine pY ?_|fail)
    refine oQ (vs:=[(0,.U F.path),(1,.I F.node)]) (cells:=(hR F).toArray) (by rw[a0];rfl) fE ?_;refine nV iO fx fx fU fU (λJ N dp fa=>?_) (λw' he=>he.cell bV);have dn:Ext ag J:=(Fr.drew _ _).t dp;refine lB ?_;have D:=ai.ext' dn;refine jH (B:=w.heap.size) (news:=hR F) iO fx fU fx D.oe fx (gQ N fU fx) fx (λu hu=>mC [_] u (by simpa using hu)) (by unfold maxLen;omega) fy D.ext.size (λew ak dz ae _=>?_);have cp:Ow hR 2 ak w.heap.size 49 ew (m.es++[F]):=Ow.ext1 (l':=[F]) (by simpa using dz);have O:=D.aan ae cp;obtain⟨eM,A0,rfl,_,_⟩:=cp.form;refine kC ?_;refine ir (D.xP.fr ae (D.wM D.oe fU)) fx fx fE fx fx (λW ad C=>?_);refine kC ?_
    have ek:hX m u=⟨m.es++[F],m.ns,m.hx,m.files⟩:=by
     rw[a0,<-dT,bK];exact IB au aF (by rw[av];exact k1) (by rw[av];exact k2)
    exact gl ⟨⟨i+1,⟨m.es++[F],m.ns,m.hx,m.files⟩,_,_,_,_,nv⟩,sub ⟨rfl,rfl,rfl,rfl,rfl,rfl⟩,(O.tree (D.xP.fr ae (D.wM D.oe fU)) bL ad C).inv ⟨fY,bM⟩ (by rw[bg,ek]),(by show 25-(i+1)<25-i;omega)⟩
   have er:¬((E:Int)=2/\0<m.files.length):=fy
   by_cases k3:E=3
   .have bj:(E:Int)=3:=fy;have d1:jp.length<=100:=kO (qb au).1
    repeat' (first|refine qN (a:=[46,46,47]) (b:=jp) fx fx (by simp only[iP,kL];omega) ?_|refine pY ?_|fail)
    refine ir d.gO fx fx fE fx fx (λJ N H=>?_);have D:=ai.node d.gO U V H;refine kC ?_;refine ir N fx fx fE fx fx (λak an ae=>?_);have O:=D.node N U V ae;have R:=d.put (x':={ah with n:={ah.n with kind:=3,target:=[46,46,47]++jp}}) (H.t ae) an rfl;refine kC ?_;exact gl ⟨(m.hx,m.files,_,.slice X m.files.length Z,_),sub ⟨rfl,rfl,rfl,rfl,rfl,rfl,rfl,rfl⟩,⟨O,R,oj au aF (by rw[av];exact .inr ⟨k1,k2,rfl,.inl ⟨k3,by dsimp only;rw[d.n],rfl⟩⟩),by have:=H.size;have:=ae.size;omega⟩⟩
   have bj:¬(E:Int)=3:=fy
   by_cases k4:E=4
   .have eu:(E:Int)=4:=fy;have bU:(u:Int)% 300=((u% 300:Nat):Int):=fy;have z2:(u:Int)/2% 300=((u/2% 300:Nat):Int):=fy;refine kC ?_;refine ir d.gO fx fx fE fx fx (λJ N H=>?_);have D:=ai.node d.gO U V H;refine kC ?_;refine ir N fx fx fE fx fx (λak an ae=>?_);have O:=D.node N U V ae;refine kC ?_;refine ir an fx fx fE fx fx (λW ad C=>?_);have ap:=O.node an U V C;rw[bU,z2]at ad;have aZ:=d.put (x':={ah with n:={ah.n with kind:=4,major:=(u% 300:Nat),minor:=(u/2% 300:Nat)}}) ((H.t ae).t C) ad rfl;refine kC ?_;exact gl ⟨(m.hx,m.files,_,.slice X m.files.length Z,_),sub ⟨rfl,rfl,rfl,rfl,rfl,rfl,rfl,rfl⟩,⟨ap,aZ,oj au aF (by rw[av];exact .inr ⟨k1,k2,rfl,.inr (.inl ⟨k3,k4,by dsimp only;rw[d.n],rfl⟩)⟩),by have:=H.size;have:=ae.size;have:=C.size;omega⟩⟩
   have eu:¬(E:Int)=4:=fy
   by_cases k5:E=5
   .have ev:(E:Int)=5:=fy;refine kC ?_;refine ir d.gO fx fx fE fx fx (λJ N H=>?_);have D:=ai.node d.gO U V H;have K:=d.put (x':={ah with n:={ah.n with kind:=6}}) H N rfl;refine kC ?_;exact gl ⟨(m.hx,m.files,_,.slice X m.files.length Z,_),sub ⟨rfl,rfl,rfl,rfl,rfl,rfl,rfl,rfl⟩,⟨D,K,oj au aF (by rw[av];exact .inr ⟨k1,k2,rfl,.inr (.inr (.inl ⟨k3,k4,k5,by dsimp only;rw[d.n],rfl⟩))⟩),by have:=H.size;omega⟩⟩
   have ev:¬(E:Int)=5:=fy;have aD:=d.ext (Fr.drew hJ ag);have z4:(u:Int)% 1000=((u% 1000:Nat):Int):=fy;have z5:(u:Int)/4% 2*600=((u/4% 2*600:Nat):Int):=fy;have eW:=vt (u% 1000);have d9:=xT u
   first|refine pj ?_|refine B0 ?_
   repeat' (first|refine gk0 ?_|refine ur (by kernel_rfl) ?_|refine oD (by kernel_rfl) (by decide+kernel) ?_|refine O1 (op:= .rem) fx fx fx (by omega) (by omega) (by omega) ?_|refine O1 (op:= .quo) fx fx fx (by omega) (by omega) (by omega) ?_|refine B1 fx fx fx (by omega) (by omega) ?_|refine ya fx fx fx (by omega) (by omega) ?_|refine GP fx fx fx ?_|refine FT fx fx fx ?_|fail)
   refine RN fx ?_;refine nb ?_;refine p5 (α:=Unit) (λ_=>[(0,.S b o zs.length c),(2,.P w.heap.size),(3,.P g3),(4,.S M 0 m.hx.length Y),(5,.slice X m.files.length Z),(6,.I (i:Int)),(7,.int .u64 (u:Int)),(8,.U jp),(12,.P g12),(13,.int .u64 (E:Int)),(161,.bool false)]) (λ_ w'=>ag=w') ?_ ?_
   .by_cases eR:E=2
    .have da:(E:Int)=2:=fy;have eS:(m.files.length:Int)=0:=fy;refine kC ?_;exact gl ⟨(),sub ⟨rfl,rfl,rfl,rfl,rfl,rfl,rfl,rfl,rfl,rfl,rfl⟩,rfl⟩
    .have da:¬(E:Int)=2:=fy;refine kC ?_;exact gl ⟨(),sub ⟨rfl,rfl,rfl,rfl,rfl,rfl,rfl,rfl,rfl,rfl,rfl⟩,rfl⟩
   rintro _ _ rfl;refine kC ?_;refine p5 (α:=gG) (λ_=>[(0,.S b o zs.length c),(2,.P w.heap.size),(3,.P g3),(4,.S M 0 m.hx.length Y),(5,.slice X m.files.length Z),(6,.I (i:Int)),(7,.int .u64 (u:Int)),(8,.U jp),(12,.P g12)]) (λx w'=>FJ g12 x ((gy (mkNode u) (u/4% 2*600:Nat) (pv (u% 1000))).1) w'/\vD w g3 m (.S M 0 m.hx.length Y) (.slice X m.files.length Z) ve vn nv w'/\g12<w'.heap.size) ?_ ?_
   .refine tY 12 [104] (λw'=>fW w' g12 37 (gB ah).toArray) fE (by decide+kernel) aD.gO ?_
    repeat' (first|refine Zq fx fx fx fy fy ?_|refine sf (cs:=gB ah) fx fE (λw' h j u hu=>by unfold gc;rw[iM,fW.cell h];simpa using hu) ?_|refine pY ?_|fail)
    rw[z4];refine fI fx fx (Cr ag.drew (u% 1000) fy) (λr J c6=>?_) (λr w' h=>by rw[<-h.2];exact aD.gO);obtain⟨rfl,rfl⟩:=c6
    repeat' (first|refine Zq fx fx fx fy fy ?_|refine qN (a:=N4) (b:=yg (u% 1000)) fx fx (by simp only[N4,iP,kL];omega) ?_|refine qN (a:=N4++yg (u% 1000)) (b:=Vf) fx fx (by rw[ib];simp only[N4,Vf,iP,kL];omega) ?_|refine pY ?_|fail)
    rw[z5];refine fH fx fx (xO ag.drew ah (u/4% 2*600:Nat) (N4++yg (u% 1000)++Vf) aD.k.i (by rw[d.n];exact iF _) (by rw[d.n];exact iF _) (by rw[ib,ib];simp only[N4,Vf,iP,kL];omega)) (λr ak bq=>?_);obtain⟨a8,rfl,ar,aw,f,a4⟩:=bq;refine kC ?_;refine gY (aD.gO.ext f) fx fx fE fx (fJ (ku ar)) (λW ad C=>?_);refine kC ?_;rw[d.n]at aw;exact gl ⟨a8,sub ⟨rfl,rfl,rfl,rfl,rfl,rfl,rfl,rfl,rfl⟩,aD.set f ⟨ar,a4 aD.k.t⟩ ad C aw,(ai.ext' ((Fr.drew _ _).t f)).node (aD.gO.ext f) U V C,by have:=f.size;have:=C.size;have h0:ag.drew.heap.size=ag.heap.size:=rfl;omega⟩
   obtain⟨n1,a2⟩:∃n1,n1=(gy (mkNode u) (u/4% 2*600:Nat) (pv (u% 1000))).1:=⟨_,rfl⟩;have bQ:fG n1=true:=by rw[a2];exact lR d9 _ _
   rw[<-a2];rintro cU J ⟨K,D,dW⟩;have fi:=js bQ
   repeat' (first|refine TZ (op:= .eql) (decide (u% 2=0)) fx fx fx (by rw[decide_eq_true_iff];omega) ?_|refine gk0 ?_|refine ur (by kernel_rfl) ?_|refine oD (by kernel_rfl) (by decide+kernel) ?_|refine O1 (op:= .rem) fx fx fx (by omega) (by omega) (by omega) ?_|refine O1 (op:= .quo) fx fx fx (by omega) (by omega) (by omega) ?_|refine B1 fx fx fx (by omega) (by omega) ?_|refine ya fx fx fx (by omega) (by omega) ?_|refine GP fx fx fx ?_|refine FT fx fx fx ?_|fail)
   refine p5 (α:=gG) (λ_=>[(0,.S b o zs.length c),(2,.P w.heap.size),(3,.P g3),(4,.S M 0 m.hx.length Y),(5,.slice X m.files.length Z),(6,.I (i:Int)),(7,.int .u64 (u:Int)),(8,.U jp),(12,.P g12)]) (λx w'=>FJ g12 x (if u% 2=0 then(gy n1 (u% 90*10:Nat) jp).1 else n1) w'/\vD w g3 m (.S M 0 m.hx.length Y) (.slice X m.files.length Z) ve vn nv w'/\g12<w'.heap.size) ?_ ?_
   .by_cases aB:u% 2=0
    case neg=>
     rw[decide_eq_false aB,if_neg aB];refine kC ?_;exact gl ⟨cU,sub ⟨rfl,rfl,rfl,rfl,rfl,rfl,rfl,rfl,rfl⟩,K,D,dW⟩
    rw[decide_eq_true aB,if_pos aB];have eK:(u:Int)% 90*10=((u% 90*10:Nat):Int):=fy;have d1:jp.length<=100:=kO (qb au).1
    repeat' (first|refine gR (t:=37) K.gO fx fx ?_|refine pY ?_|fail)
    rw[eK];refine fH fx fx (xO J cU (u% 90*10:Nat) jp K.k.i (by rw[K.n];omega) (by rw[K.n];omega) fy) (λr ak bq=>?_);obtain⟨a8,rfl,ar,aw,f,a4⟩:=bq;refine kC ?_;refine gY (K.gO.ext f) fx fx fE fx (fJ (ku ar)) (λW ad C=>?_);refine kC ?_;rw[K.n]at aw;exact gl ⟨a8,sub ⟨rfl,rfl,rfl,rfl,rfl,rfl,rfl,rfl,rfl⟩,K.set f ⟨ar,a4 K.k.t⟩ ad C aw,(D.ext' f).node (K.gO.ext f) U V C,by have:=f.size;have:=C.size;omega⟩
   obtain⟨af,bf⟩:∃af,af=(if u% 2=0 then(gy n1 (u% 90*10:Nat) jp).1 else n1):=⟨_,rfl⟩
   have cH:fG af=true:=by
    rw[bf];split
    .exact lR bQ _ _
    .exact bQ
   rw[<-bf];rintro cV ak ⟨R,O,dX⟩;have fj:=js cH
   have d3:af.kind=2:=by
    rw[bf];split
    .rw[nC,a2,nC];rfl
    .rw[a2,nC];rfl
   have dS:oH u jp (mkNode u)=if u% 5=0 then(kx af (af.size+(u% 7*100:Nat))).1 else af:=by
    unfold oH;dsimp only;rw[<-a2,<-bf]
   have fk:=(u5 (iX cH d3)).2.2
   repeat' (first|refine TZ (op:= .eql) (decide (u% 5=0)) fx fx fx (by rw[decide_eq_true_iff];omega) ?_|refine gk0 ?_|refine ur (by kernel_rfl) ?_|refine oD (by kernel_rfl) (by decide+kernel) ?_|refine O1 (op:= .rem) fx fx fx (by omega) (by omega) (by omega) ?_|refine O1 (op:= .quo) fx fx fx (by omega) (by omega) (by omega) ?_|refine B1 fx fx fx (by omega) (by omega) ?_|refine ya fx fx fx (by omega) (by omega) ?_|refine GP fx fx fx ?_|refine FT fx fx fx ?_|fail)
   refine p5 (α:=gG) (λ_=>[(0,.S b o zs.length c),(2,.P w.heap.size),(3,.P g3),(4,.S M 0 m.hx.length Y),(5,.slice X m.files.length Z),(6,.I (i:Int)),(7,.int .u64 (u:Int)),(8,.U jp),(12,.P g12)]) (λx w'=>FJ g12 x (oH u jp (mkNode u)) w'/\vD w g3 m (.S M 0 m.hx.length Y) (.slice X m.files.length Z) ve vn nv w'/\g12<w'.heap.size) ?_ ?_
   .rw[dS]
    by_cases bb:u% 5=0
    case neg=>
     rw[decide_eq_false bb,if_neg bb];refine kC ?_;exact gl ⟨cV,sub ⟨rfl,rfl,rfl,rfl,rfl,rfl,rfl,rfl,rfl⟩,R,O,dX⟩
    rw[decide_eq_true bb,if_pos bb];have eL:af.size+(u:Int)% 7*100=af.size+((u% 7*100:Nat):Int):=fy
    have k7:ak.cell? ⟨g12,7,none⟩=some (.I af.size):=by
     have:=R.gO.cell 7;rw[this,<-R.n];rfl
    repeat' (first|refine gR (t:=37) R.gO fx fx ?_|refine pY ?_|fail)
    rw[eL];refine fH fx fx (JJ ak cV (af.size+(u% 7*100:Nat)) R.k.i (by rw[R.n];omega) (by rw[R.n];omega)) (λr W c9=>?_);obtain⟨a8,rfl,ar,aw,al,a4⟩:=c9;refine kC ?_;refine gY (R.gO.ext al) fx fx fE fx (fJ (ku ar)) (λbk bt bB=>?_);refine kC ?_;rw[R.n]at aw;exact gl ⟨a8,sub ⟨rfl,rfl,rfl,rfl,rfl,rfl,rfl,rfl,rfl⟩,R.set al ⟨ar,a4 R.k.t⟩ bt bB aw,(O.ext' al).node (R.gO.ext al) U V bB,by have:=al.size;have:=bB.size;omega⟩
   rintro eF W ⟨aZ,ap,e1⟩;have bP:nv.length=m.ns.length:=by have:=congrArg List.length ap.nd;simpa using this
   obtain⟨aT,aV,rfl,_,_⟩:=ap.on.form;have et:W.cell? ⟨g3,1,none⟩=some (.slice aT m.ns.length aV):=by rw[<-bP];exact ap.xP.cell 1
   refine kC ?_;refine FG (vs:=WL m.ns.length) sC fx fx fU fU (λu hu=>by rw[jS.1 hu];rfl) (λbk bt bc fb=>?_);have Q:=ap.ext' bc;refine jH (B:=w.heap.size) (news:=WL m.ns.length) sC fx fU fx Q.of fx (gQ bt fU fx) fx (λu hu=>by rw[jS.1 hu];rfl) (by unfold maxLen;omega) fy Q.ext.size (λcR cS dC bC _=>?_);have dD:Ow WL 1 cS w.heap.size 3 cR (m.files++[m.ns.length]):=Ow.ext1 (l':=[m.ns.length]) (by simpa using dC);refine kC ?_;refine gl ⟨(m.hx,m.files++[m.ns.length],.S M 0 m.hx.length Y,cR,eF),sub ⟨rfl,rfl,rfl,rfl,rfl,rfl,rfl,rfl⟩,⟨Q.adB bC dD,?_,oj au aF (by rw[av];exact .inr ⟨k1,k2,rfl,.inr (.inr (.inr ⟨k3,k4,k5,aZ.n,rfl⟩))⟩),by have:=bc.size;have:=bC.size;omega⟩⟩;have:=(aZ.ext bc).Ui bC (rh.own Q.of fU) (λe=>by obtain⟨cs,hc⟩:=Q.of.za e;exact hc.Dm (aZ.ext bc).gO fU rfl);exact⟨this.gO,this.k,rfl⟩
  rintro⟨ds,fs,ey,eA,aJ⟩ bk ⟨Q,ck,cK,dY⟩;dsimp only at Q ck cK dY|-;have bP:nv.length=m.ns.length:=by have:=congrArg List.length Q.nd;simpa using this
  have d6:=aj.len;obtain⟨aS,ce,rfl,_,_⟩:=Q.oe.form;obtain⟨aT,aV,rfl,_,_⟩:=Q.on.form;have fo:gc bk g3 0 (.slice aS m.es.length ce):=Q.xP.cell 0;have et:bk.cell? ⟨g3,1,none⟩=some (.slice aT m.ns.length aV):=by rw[<-bP];exact Q.xP.cell 1
  obtain⟨F,a0⟩:∃F:En,F=⟨jp,(m.ns.length:Int)⟩:=⟨_,rfl⟩;refine fA ?_;refine oQ (vs:=[(0,.U F.path),(1,.I F.node)]) (cells:=(hR F).toArray) (by rw[a0];rfl) fE ?_;refine nV iO fx fx fU fU (λcS df b8 fc=>?_);have aq:=Q.ext' b8;have cl:=ck.ext b8;refine jH (B:=w.heap.size) (news:=hR F) iO fx fU fx aq.oe fx (gQ df fU fx) fx (λu hu=>mC [_] u (by simpa using hu)) (by unfold maxLen;dsimp only;omega) (by dsimp only;omega) aq.ext.size (λex eC dE bD _=>?_);have cq:Ow hR 2 eC w.heap.size 49 ex (m.es++[F]):=Ow.ext1 (l':=[F]) (by simpa using dE);have dG:=aq.aan bD cq;have bh:=aq.xP.fr bD (aq.wM aq.oe fU);have cm:=cl.Ui bD (rh.own aq.oe fU) (λe=>by obtain⟨cs,hc⟩:=aq.oe.za e;exact hc.Dm cl.gO fU rfl);obtain⟨cW,cY,rfl,_,_⟩:=cq.form;refine fA ?_;refine ir bh fx fx fE fx fx (λeD dg cd=>?_);have cj:=dG.tree bh bL dg cd;have cn:=cm.Ui cd (rh.one bh fU) (λe=>cm.gO.Dm bh fU e);have fp:gc eD g3 1 (.slice aT nv.length aV):=cj.xP.cell 1;refine fA ?_;refine gR (t:=37) cn.gO fx fx ?_;refine nV mi fx fx fU fU (λft dh b9 fe=>?_);have aL:=cj.ext' b9;have co:=cn.ext b9;refine jH (B:=w.heap.size) (news:=gB aJ) mi fx fU fx aL.on fx (gQ dh fU fx) fx (iC co.k.i) (by unfold maxLen;omega) fy aL.ext.size (λv22 eE dF cf _=>?_);have cr:Ow gB 12 eE w.heap.size 37 v22 (nv++[aJ]):=Ow.ext1 (l':=[aJ]) (by simpa using dF)
  have dH:=aL.adr cf cr (λy am=>by
   rcases iS.1 am with am|am
   .exact .inl am
   .rw[jS.1 am];exact .inr co.k)
  have cL:=aL.xP.fr cf (aL.wM aL.on fU);obtain⟨cX,cZ,rfl,_,_⟩:=cr.form;refine fA ?_;refine ir cL fx fx fE fx fx (λfu di dw=>?_);have dy:=dH.tree cL bL di dw;refine fA ?_;have d5:(nv++[aJ]).map (·.n)=m.ns++[aJ.n]:=by rw[pw,Q.nd];rfl
  refine gl ⟨⟨i+1,_,ey,eA,.slice cW (m.es++[F]).length cY,.slice cX (nv++[aJ]).length cZ,nv++[aJ]⟩,sub ⟨rfl,rfl,rfl,rfl,rfl,rfl⟩,dy.inv ⟨fY,bM⟩ ?_,(by show 25-(i+1)<25-i;omega)⟩;rw[bg,cK,d5,a0]
 .have dQ:(zs.take i).map uN=(zs.map uN).take 25:=by
   rw[<-CN]
   congr 1
   by_cases h1:i<zs.length
   .rw[show i=25 by omega]
   .rw[show i=zs.length by omega,kh,p8 fy]
  rw[dQ]at aY;have dL:m=v7 (zs.map uN):=aY;have eg:(⟨m.es,m.ns⟩:fZ)=mkRaw (zs.map uN):=by rw[dL];rfl
  have bO:=u4 (zs.map uN);rw[<-eg]at bO;have cM:mE L ve vn nv ⟨m.es,m.ns⟩:=⟨G.oe.rw,G.on.rw,λy am=>(G.Lt y am).i,G.nd⟩;have cO:H8 ⟨m.es,m.ns⟩:=⟨λn bN=>by have:=js (aj.node n bN);omega,λn bN=>by have:=js (aj.node n bN);omega,λe he=>by have:=kO (aj.path e he);omega⟩;have d6:=aj.len;have aN:fW L g3 26 #[ve,vn]:=G.xP;have eb:Ow hR 2 L w.heap.size 49 ve m.es:=G.oe;have ec:Ow gB 12 L w.heap.size 37 vn nv:=G.on;obtain⟨aS,ce,rfl,_,_⟩:=eb.form;obtain⟨aT,aV,rfl,_,_⟩:=ec.form;have cJ:=G.res;have cz:=G.ext
  by_cases h1:i<zs.length
  .have aB:¬i<25:=λh=>fY ⟨h1,h⟩
   exact y18
  .exact y18
