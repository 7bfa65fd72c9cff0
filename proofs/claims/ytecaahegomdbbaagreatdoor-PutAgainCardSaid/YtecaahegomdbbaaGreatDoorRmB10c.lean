/- Parts of the proof. -/
import Derived.Test.YtecaahegomdbbaaGreatDoorRmB9b
import Derived.Test.YtecaahegomdbbaaGreatDoorRmWy
set_option linter.all false
set_option maxRecDepth 99999
set_option maxHeartbeats 0
namespace Go.Proofs.YtecaahegomdbbaaGreatDoor.gr
open Go.Proofs.Tryz
open Go.RowKit
section
attribute [local irreducible] xs T
def Fr.ee {a b:i5} (h:Fr hJ a b):Ext a b:=h
structure PoI (t:fZ) (ic:List fL) (gp B:Nat) (vn:Value) (w0:World) (x:Nat×Value) (w:World):Prop where
 ext:Ext w0 w
 le:x.1<=t.es.length
 part:fW w gp 26 #[x.2,vn]
 own:Ow hR 2 w B 49 x.2 ((t.es.take x.1).filter λe=>jK ic e.path)
 sz:B<=w.heap.size
def sj (w:i5) (ve vn aP:i6) (fO:ip gG) (t:fZ) (ic:ip fL) (aw:mE w ve vn fO t) (ht:Rw qM w aP ic) (V:H8 t) (aK:t.ns.length<=1000000) (bt:∀q∈ic,q.length<=1000000):fQ prog 16 #[.agg #[ve,vn],aP] w (VW t ic w):=by
 refine gP func16 fx fE ?_;have M:∀{a b c:i5} {g:Nat},Ext a b->Fr (· =g) b c->a.heap.size<=g->Ext a c:=λh1 aV aJ=>h1.trans aV fM
 have O:=aw;obtain⟨A,c,rfl,bG,bI,aY⟩:=aw.e.op gi;obtain⟨E,F,rfl,bH,bJ,bE⟩:=aw.n.op gw;obtain⟨af,ag,rfl,bK,bL,aA⟩:=ht.op nZ;have hlen:=O.len;refine fA ?_;refine hP fx (λW aZ a5 bO=>?_);have bd:fW W w.heap.size 26 #[.slice A t.es.length c,.slice E fO.length F]:=aZ;refine fA ?_;refine gx (z:= .agg #[.slice none 0 0,.slice none 0 0]) fE (λay a1 aD bP=>?_);have bb:fW ay W.heap.size 26 #[.slice none 0 0,.slice none 0 0]:=a1;have aB:Ext w ay:=a5.t aD;have aG:=bd.ext aD;refine fA ?_;refine gR (t:=26) aG fx fx ?_;refine fA ?_;refine fH fx fx (Aq ay _ _ fO t (O.ext aB) V aK) (λr bx h3=>?_);obtain⟨rfl,aj⟩:=h3;have aC:=aB.t aj;have ap:=bb.ext aj;have au:=aG.ext aj;cases hm:gM t with
 |false=>
  refine fA ?_;refine oQ (parts:=[]) (cells:= #[.slice none 0 0,.slice none 0 0]) fx fE ?_;refine fA ?_;refine gY ap fx fx fE fx (fJ (l:=[.slice none 0 0,.slice none 0 0]) fx) (λf a2 ba=>?_);refine fA ?_;exact hL fx fx fx a2 fE ⟨M aC ba fy,by rw[Pu hm]⟩
 |true=>
 have aJ:=ni hm;have bD:t.es.length<=100:=aJ.len;refine fA ?_;refine gC (α:=Nat) (λi=>[(1,.slice af ic.length ag),(2,.P w.heap.size),(4,.P W.heap.size),(6,.I (i:Int))]) (λi w'=>Ext bx w'/\i<=ic.length/\∀q∈ic.take i,∃e∈t.es,e.path=q) (λi=>ic.length-i) 0 (sub ⟨rfl,rfl,rfl,rfl⟩) (by grind [Fr.refl]) ?_;rintro i f ⟨G,hi,aI⟩;have Z:=aC.t G
 by_cases fY:i<ic.length
 .obtain⟨b,o,q,rfl,_,hq,_,ad⟩:=aA.at_ fY
  have ah:f.drew.cell? ⟨b,o+i,none⟩=some (.U q):=by
   have:=Z.ed.cell (ad 0 _ rfl);rwa[oR,kB]at this
  have be:fW f.drew w.heap.size 26 #[.slice A t.es.length c,.slice E fO.length F]:=au.ext G.ed
  repeat' (first|refine gR (t:=26) be fx fx ?_|refine kt i (o+i) fx fx fx fx fx fY ?_|refine fT ?_|fail)
  refine fH fx fx (um f.drew _ _ t.es q (O.ext Z.ed).e) (λr aQ aW=>?_);obtain⟨rfl,al⟩:=aW;have ak:Ext f aQ:=(Fr.drew _ _).t al;cases bl:fK t.es q with
  |none=>
   simp only[tx,BW];have ae:tL t ic=(none,7):=Om hm fM (mU bl);refine fA ?_;refine oQ (parts:=[]) (cells:= #[.slice none 0 0,.slice none 0 0]) fx fE ?_;refine fA ?_;refine gY (ap.ext (G.t ak)) fx fx fE fx (fJ (l:=[.slice none 0 0,.slice none 0 0]) fx) (λJ R ao=>?_);refine fA ?_;exact hL fx fx fx R fE ⟨M (Z.t ak) ao fy,by rw[ae]⟩
  |some k=>
   simp only[Bl,AN];refine fA ?_;refine gl ⟨i+1,sub ⟨rfl,rfl,rfl,rfl⟩,⟨G.t ak,fY,λbU bN=>?_⟩,fM⟩
   grind [List.take_add_one, gT]
 obtain rfl:i=ic.length:=fy;rw[kh]at aI;have k1:gc f w.heap.size 1 (.slice E fO.length F):=(au.ext G).cell 1;refine fA ?_;refine oQ (parts:=[(1,.tmp 37)]) (cells:= #[.slice none 0 0,.slice E fO.length F]) fx (by first|rfl|kernel_rfl) ?_;refine gx (z:= .agg #[.slice none 0 0,.slice none 0 0]) fE (λaQ a3 al bQ=>?_);refine gY a3 fx fx fE fx (fJ (l:=[.slice none 0 0,.slice E fO.length F]) fx) (λJ R ao=>?_);have aE:Ext f J:=M al ao (gJ _);obtain⟨v,bn⟩:∃v,v=f.heap.size:=⟨_,rfl⟩;rw[<-bn]at R|-;have bo:v<J.heap.size:=fW.lt R;refine fA ?_;refine gC (α:=Nat×i6) (λx=>[(1,.slice af ic.length ag),(2,.P w.heap.size),(4,.P W.heap.size),(9,.P v),(10,.I (x.1:Int))]) (PoI t ic v J.heap.size (.slice E fO.length F) f) (λx=>t.es.length-x.1) (0,.slice none 0 0) (sub ⟨rfl,rfl,rfl,rfl,rfl⟩) ⟨aE,iF _,R,Ow.nil _ _ _,gJ _⟩ ?_;rintro⟨i,bX⟩ X ⟨T,bp,N,I,aN⟩;dsimp only at bp N I aN|-;have L:=Z.t T;have bf:=au.ext (G.t T);obtain⟨Y,cp,rfl,_,_⟩:=I.form;have bm:=LJ (λe=>jK ic e.path) (t.es.take i);rw[kv]at bm;have m0:gc X w.heap.size 0 (.slice A t.es.length c):=bf.cell 0
 by_cases fY:i<t.es.length
 .obtain⟨b,o,e,rfl,_,he,_,ad⟩:=aY.at_ fY;have bk:=jT he;have aL:=V.p e bk;have bC:gc X b (o+i*2+0) (.U e.path):=L.ee.cell (ad 0 _ rfl)
  have aO:(t.es.take (i+1)).filter (λe=>jK ic e.path)=(t.es.take i).filter (λe=>jK ic e.path)++if jK ic e.path then[e]else[]:=by
   rw[j2,he,MN]
   congr 1
   by_cases hw:jK ic e.path=true<;>simp[hw]
  obtain⟨C,av⟩:∃C:Nat->Bool,C=λk=>decide (e.path=[])||(ic.take k).any λq=>oq e.path q||oq q e.path:=⟨_,rfl⟩
  have bg:C 0=decide (e.path=[]):=by rw[av];simp
  have bh:C ic.length=jK ic e.path:=by rw[av];simp only[kh];rfl
  repeat' (first|refine gH i (o+i*2) fx fx fx fx fx fY ?_|refine gk (op:= .eql) (a:=e.path) (b:=[]) fx fx fx ?_|refine fT ?_|fail)
  refine gC (α:=Nat) (λk=>[(1,.slice af ic.length ag),(2,.P w.heap.size),(4,.P W.heap.size),(9,.P v),(10,.I (i:Int)),(11,.U e.path),(12,.bool (C k)),(13,.I (k:Int))]) (λk w'=>Ext X w'/\k<=ic.length) (λk=>ic.length-k) 0 (sub ⟨rfl,rfl,rfl,rfl,rfl,rfl,by rw[bg];rfl,rfl⟩) (by grind [Fr.refl]) ?_;rintro k K ⟨d,hk⟩;have ai:=L.t d
  by_cases pA:k<ic.length
  .obtain⟨aT,ot,q,rfl,_,hq,_,bi⟩:=aA.at_ pA;have aM:=bt q (jT hq)
   have H:C (k+1)=(C k||(oq e.path q||oq q e.path)):=by
    rw[av];dsimp only;rw[j2,hq,wD,List.any_append];simp[Bool.or_assoc]
   have ah:∀w',Ext w w'->gc w' aT (ot+k) (.U q):=λw' a4=>by
    have:=a4.cell (bi 0 _ rfl)
    grind
   have bA:=ah K ai;cases aH:C k with
   |true=>
    rw[aH,MD]at H;refine fA ?_;exact gl ⟨k+1,sub ⟨rfl,rfl,rfl,rfl,rfl,rfl,by rw[H];rfl,rfl⟩,⟨d,pA⟩,fM⟩
   | false=>
    rw[aH,CQ]at H
    repeat' (first|refine kt k (ot+k) fx fx fx fx fx pA ?_|refine fT ?_|fail)
    refine fH fx fx (xL K e.path q aL aM) (λr Q aX=>?_);obtain⟨rfl,U⟩:=aX;cases hu:oq e.path q with
    |true=>
     rw[hu,MD]at H;refine fA ?_;exact gl ⟨k+1,sub ⟨rfl,rfl,rfl,rfl,rfl,rfl,by rw[H];rfl,rfl⟩,⟨d.t U,pA⟩,fM⟩
    |false=>
     rw[hu,CQ]at H;have bB:=ah Q (ai.t U)
     repeat' (first|refine kt k (ot+k) fx fx fx fx fx pA ?_|refine fT ?_|fail)
     refine fH fx fx (xL Q q e.path aM aL) (λr ax aU=>?_);obtain⟨rfl,a6⟩:=aU;refine fA ?_;exact gl ⟨k+1,sub ⟨rfl,rfl,rfl,rfl,rfl,rfl,by rw[H];rfl,rfl⟩,⟨d.t (U.t a6),pA⟩,fM⟩
  .obtain rfl:k=ic.length:=fy;rw[bh];have a8:=T.t d;cases hw:jK ic e.path with
   |false=>
    refine fA ?_;exact gl ⟨(i+1,_),sub ⟨rfl,rfl,rfl,rfl,rfl⟩,⟨a8,fY,N.ext d,by dsimp only;rw[aO,hw];simpa using I.ext d,ly aN d.size⟩,fM⟩
   |true=>
    have az:gc K.drew v 0 (.slice Y ((t.es.take i).filter λe=>jK ic e.path).length cp):=(N.ext d).cell 0;have bT:gc K.drew w.heap.size 0 (.S b o t.es.length c):=d.ed.cell m0;have bj:∀j u,(hR e)[j]? =some u->gc K.drew b (o+i*2+j) u:=λj u hu=>ai.ed.cell (ad j u hu)
    refine fA ?_;refine tY 8 [79] (λw'=>gc w' v 0 (.slice Y ((t.es.take i).filter λe=>jK ic e.path).length cp)) fE (by decide+kernel) az ?_
    repeat' (first|refine pG fx fx (λ_ h=>h) ?_|refine gH i (o+i*2) fx fx fx fx fx fY ?_|refine fT ?_|fail)
    refine hV (cs:=hR e) fx fx bj ?_;refine nV iO fx fx fU fU (λQ S U bR=>?_) (λw' he=>he.cell az);refine lB ?_;have a9:Ext K Q:=(Fr.drew _ _).t U;have aa:=d.t a9;have z9:=aa.size;refine jH (B:=J.heap.size) (news:=hR e) iO fx fU fx (I.ext aa) fx (gQ S fU fx) fx (λu hu=>mC [e] u (by simpa using hu)) (by grind [maxLen]) fy fy (λv10 ax bF am _=>?_);have aF:Ow hR 2 ax J.heap.size 49 v10 ((t.es.take i).filter (λe=>jK ic e.path)++[e]):=by grind [Ow.ext1]
    obtain⟨bz,tU,rfl,_,_⟩:=aF.form;have bq:∀x,x<J.heap.size->¬(Value.slice Y ((t.es.take i).filter λe=>jK ic e.path).length cp).ownBlock=some x:=λx bS h=>by have:=(I.gO h).1;omega
    have bs:=(N.ext aa).fr am (bq v bo);refine fA ?_;refine ir bs fx fx fE fx fx (λbY a0 an=>?_);refine fA ?_;have z46:=aE.size;have a7:Ext f ax:=(T.t aa).trans am fM;exact gl ⟨(i+1,_),sub ⟨rfl,rfl,rfl,rfl,rfl⟩,⟨M a7 an fy,fY,a0,by dsimp only;rw[aO,hw];simpa using aF.fr an fM,(by have:=am.size;have:=an.size;omega)⟩,fM⟩
 .obtain rfl:i=t.es.length:=fy;rw[kh]at I N;have br:=NS hm aI;have bu:mE X (.slice Y (t.es.filter λe=>jK ic e.path).length cp) (.slice E fO.length F) fO ⟨t.es.filter (λe=>jK ic e.path),t.ns⟩:=⟨I.rw,(O.n).ext L,λy bw=>(O.i y bw).ext L,O.m⟩;have bv:H8 ⟨t.es.filter (λe=>jK ic e.path),t.ns⟩:=⟨V.b,V.g,λe he=>V.p e fM⟩;have bM:=LJ (λe:En=>jK ic e.path) t.es;refine fA ?_;refine gR (t:=26) N fx fx ?_;refine fA ?_;refine fH fx fx (AM X _ _ fO ⟨t.es.filter (λe=>jK ic e.path),t.ns⟩ bu bv (by dsimp only;omega) aK) (λr K D=>?_);obtain⟨d,D⟩:=D;have aq:=ap.ext (G.t (T.t d));unfold VW;rw[br];cases ae:hQ ⟨t.es.filter (λe=>jK ic e.path),t.ns⟩with
  |none=>
   rw[ae]at D;dsimp only at D;subst D;refine fA ?_;refine gY aq fx fx fE fx (fJ (l:=[.slice none 0 0,.slice none 0 0]) fx) (λQ S ab=>?_);refine fA ?_;exact hL fx fx fx S fE ⟨M (L.t d) ab fy,rfl⟩
  |some u=>
   rw[ae]at D;dsimp only at D;obtain⟨bV,bW,l',rfl,ar⟩:=D;have bc:=ar;obtain⟨aR,c1,rfl,_,_,_⟩:=ar.e.op gi;obtain⟨aS,d1,rfl,_,_,_⟩:=ar.n.op gw;refine fA ?_;refine gY aq fx fx fE fx (fJ (l:=[.slice aR u.es.length c1,.slice aS l'.length d1]) fx) (λQ S ab=>?_);refine fA ?_;exact hL fx fx fx S fE ⟨M (L.t d) ab fy,⟨_,_,l',rfl,bc.Uc aq (EX _ _ _ _ _ _) ab⟩⟩
