/- Parts of the proof. -/
import Derived.Test.YtecaahegomdbbaaGreatDoorRmWm
set_option linter.all false
set_option maxRecDepth 99999
set_option maxHeartbeats 0
namespace Go.Proofs.YtecaahegomdbbaaGreatDoor.gr
open Go.Proofs.Tryz
open Go.RowKit
variable {af:Array Edge} {full:Array li} {Y:Env} {K:Env->i5->Prop} {hs:ip Nat} {ii:ip li} {B z:Nat} {pos:String} {d:Tmp} {e R:i9} {w:i5} {H:i5->Prop}
section
attribute [local irreducible] xs T
def Fr.ed {a b:i5} (h:Fr hJ a b):Ext a b.drew:=h.d
def aam:fL:=[48,49,50,51,52,53,54,55,56,57]
def SC:∀l:Nat,l<10->(aam.drop l).take (l+1-l)=[dg l]:=by decide
def xdg {t:i9} {x lo hi:i7} {k v:kw} {jl f:Int} (l:Nat) (ht:fC t=true) (u:gh Y x=some (.U aam)) (n:gh Y lo=some (.int k jl)) (g:gh Y hi=some (.int v f)) (el:jl=l) (y:f=(l:Int)+1) (m:l<10)
  (hc:xs prog fD fC hs H full K ii ((d,.U [dg l])::Y) w):
  xs prog fD fC hs H full K (⟨some d,.slice t x (some lo) (some hi) none,R,pos,af,none⟩::ii) Y w:=by
 refine Lx l (l+1) ht u n g el fy fy (by show l+1<=10;omega) ?_;rw[SC l m];exact hc
def Cr (w:i5) (n:Nat) (u:n<=9223372036854775807):fQ prog 25 #[.I (n:Int)] w λr w'=>r= .U (yg n)/\w=w':=by
 have v:n<10^21:=VH u fU;refine gD func25 fx fE ?_;refine fA ?_;refine gC (α:=Nat×Nat×fL) (λx=>[(0,.I (x.2.1:Int)),(3,.U x.2.2)]) (λx w'=>w=w'/\HB x.1 x.2.1 x.2.2=yg n/\x.2.1<10^(x.1+1)/\x.2.1<=n/\x.2.2.length+x.1<=20) (λx=>x.2.1) (20,n,[]) (sub ⟨rfl,rfl⟩) ⟨rfl,rfl,v,gJ _,gJ _⟩ ?_;rintro⟨k,m,s⟩ B ⟨rfl,d,hm,t,hs⟩;dsimp only at d hm t hs|-
 by_cases f:9<m
 .cases k with
  |zero=>omega
  |succ k=>
   rw[HB,if_pos f]at d;have g:m% 10<10:=rE _ fU
   repeat' (first|refine tQ fx fx fy fy fy ?_|refine uk fx fx fy fy fy ?_|refine xdg (m% 10) fx fx fx fx fy fy g ?_|refine qN (a:=[dg (m% 10)]) (b:=s) fx fx (by simp only[iP,kL];omega) ?_|refine fT ?_|fail)
   exact gl ⟨(k,m/10,dg (m% 10)::s),sub ⟨km (by dsimp only;omega),rfl⟩,⟨rfl,d,(by dsimp only;rw[MJ]at hm;omega),(by dsimp only;omega),(by dsimp only[List.length_cons];omega)⟩,(by show m/10<m;omega)⟩
 .have y:yg n=dg m::s:=by
   rw[<-d];cases k with
   |zero=>rfl
   |succ k=>rw[HB,if_neg f]
  rw[y]
  repeat' (first|refine xdg m fx fx fx fx fx fx fy ?_|refine qN (a:=[dg m]) (b:=s) fx fx (by simp only[iP,kL];omega) ?_|refine fT ?_|fail)
  exact y2
def wc (a b:fL):fL×Int:=if gX a&&jU b then(if gX (rV a b)then(rV a b,0)else([],2))else([],1)
def uh {a b s:fL} (h:nO a b=some s):wc a b=(s,0):=by
 unfold nO at h;unfold wc;split at h
 .rename_i h1;rw[if_pos h1];split at h
  .rename_i d;rw[if_pos d,jb h]
  .cases h
 .cases h
def JR {a b:fL} (h:nO a b=none):(wc a b).1=[]/\(wc a b).2≠0:=by
 unfold nO at h;unfold wc;split at h
 .rename_i h1;rw[if_pos h1];split at h
  .cases h
  .rename_i d;rw[if_neg d];exact⟨rfl,by decide⟩
 .rename_i h1;rw[if_neg h1];exact⟨rfl,by decide⟩
def KB (w:i5) (a b:fL) (u:a.length<=400000) (v:b.length<=400000):fQ prog 23 #[.U a,.U b] w λr w'=>r= .tuple #[.string (su (wc a b).1),.I (wc a b).2]/\Ext w w':=by
 refine gP func23 fx fE ?_;refine fA ?_;refine fH fx fx (lU w a fy) (λr m h1=>?_);obtain⟨rfl,d⟩:=h1;unfold wc;cases x:gX a with
 |false=>
  refine fA ?_;exact ia fx fx fx ⟨rfl,d⟩
 | true=>
  refine fA ?_;refine fH fx fx (zx m b fy) (λr n f=>?_);obtain⟨rfl,rfl⟩:=f;cases y:jU b with
  |false=>
   refine fA ?_;exact ia fx fx fx ⟨rfl,d⟩
  | true=>
   by_cases h0:a=[]
   .have hs:rV a b=b:=by unfold rV;rw[if_pos h0]
    rw[hs]
    repeat' (first|refine gk (op:= .neq) (b:=[]) (r:=false) fx fx (by simp[hG,h0]) ?_|refine fT ?_|fail)
    refine fH fx fx (lU m b fy) (λr n f=>?_);obtain⟨rfl,g⟩:=f;cases hm:gX b with
    |false=>
     exact y40
    |true=>
     exact y40
   .have hs:rV a b=(a++[47])++b:=by unfold rV;rw[if_neg h0];simp
    rw[hs]
    repeat' (first|refine gk (op:= .neq) (b:=[]) (r:=true) fx fx (by simp[hG,h0]) ?_|refine qN (a:=a) (b:=[47]) fx fx (by simp only[iP,kL];omega) ?_|refine qN (a:=a++[47]) (b:=b) fx fx (by rw[ib];simp only[iP,kL];omega) ?_|refine fT ?_|fail)
    refine fH fx fx (lU m ((a++[47])++b) (by rw[ib,ib];simp only[iP,kL];omega)) (λr n f=>?_);obtain⟨rfl,g⟩:=f;cases hm:gX ((a++[47])++b)with
    |false=>
     exact y40
    |true=>
     exact y40
end
section
def abm {t:i9} {x y:i7} {g n c q:Nat} {vs:ip i6} {u:i6} (hO:gK w B e z (.S g 0 n c) n vs) (J:gh Y x=some (.pointer (some ⟨g,q,none⟩))) (L:gh Y y=some u) (ht:one t=true) (hu:u.oneCell'=true) (hq:q<vs.length)
  (h:∀w',gK w' B e z (.S g 0 n c) n (vs.set q u)->Fr (· =g) w w'->xs prog fD fC hs H full K ii Y w') (hH:∀w',Fr (· =g) w w'->H w':=by intros;trivial):xs prog fD fC hs H full K (⟨none,.store t x y,R,pos,af,none⟩::ii) Y w:=by
 obtain⟨h1,v⟩:=hO;rcases v with⟨d,_⟩|⟨N,cap,cur,d,G,I,h3,C,D,f⟩
 .cases d
 injection d with d M m
 injection d with d
 injection d with d
 subst d;subst m;have O:vs.length<=cur.size:=by rw[<-f,kv];simp only[py];omega
 refine ir I J L ht hu (decide_eq_true fy) (λw' E F=>h w' ⟨by rw[nS];exact h1,.inr ⟨g,c,cur.setIfInBounds q u,rfl,G,E,h3,C,?_,?_⟩⟩ F) hH
 .rw[WS];exact D
 .rw[MM,List.take_set,f]
def Ow.za {α:Type} {f:α->ip i6} {v:i6} {l:ip α} (h:Ow f z w B e v l) {b:Nat} (d:v.ownBlock=some b):∃cur,fW w b e cur:=by
 obtain⟨_,m⟩:=h;rcases m with⟨rfl,_⟩|⟨g,cap,cur,rfl,_,n,_⟩
 .cases d
 .have:g=b:=by simpa[Value.ownBlock]using d
  subst this;exact⟨cur,n⟩
def Ow.apart {α β:Type} {g:α->ip i6} {m:β->ip i6} {C f:Nat} {e':i9} {v d:i6} {l:ip α} {l':ip β} (h:Ow g z w B e v l) (n:Ow m C w f e' d l') (y:e≠e') {b:Nat} (u:v.ownBlock=some b):¬d.ownBlock=some b:=λx=>by
 obtain⟨c,h1⟩:=h.za u;obtain⟨D,t⟩:=n.za x;exact h1.Dm t y fx
theorem CW:∀(l:ip hT) (i:Nat) (p:hT) (s:fL),l[i]? =some p->(l.flatMap kc).set (i*2+1) (.U s)=(l.set i ⟨p.pos,s⟩).flatMap kc
 |[],i,p,s,h=>by simp at h
 |x::l,0,p,s,h=>by
  simp only[My,CU]at h;subst h;rfl
 |x::l,i+1,p,s,h=>by
  have f:=CW l i p s (by simpa using h);rw[show(i+1)*2+1=i*2+1+2 from by omega];have d:((x::l).flatMap kc).set (i*2+1+2) (.U s)= .I x.pos:: .U x.data::((l.flatMap kc).set (i*2+1) (.U s)):=rfl;rw[d,f];rfl
attribute [local irreducible] xs T
structure ClI (l:List hT) (lo hi:Int) (w0:World) (x:Nat×Value) (w:World):Prop where
 i:x.1<=l.length
 own:Ow kc 2 w w0.heap.size 39 x.2 (gZ (l.take x.1) lo hi)
 ext:Ext w0 w
def Oh (l:ip hT):Prop:=l.length<=1000000/\∀p∈l,0<=p.pos/\p.pos<=4398046511104/\p.data.length<=10000000
def OR {l:ip hT} {i:Nat} {p:hT} (lo hi:Int) (h:l[i]? =some p):gZ (l.take (i+1)) lo hi=gZ (l.take i) lo hi++(nf lo hi p).toList:=by
 unfold gZ;rw[j2,h,List.filterMap_append];cases hc:nf lo hi p<;>simp[hc]
def qx (w:i5) (v:i6) (l:ip hT) (lo hi:Int) (T:Rw kc w v l) (N:Oh l) (aa:0<=lo/\lo<=4398046511104/\0<=hi/\hi<=4398046511104):fQ prog 56 #[v,.I lo,.I hi] w λr w'=>Ow kc 2 w' w.heap.size 39 r (gZ l lo hi)/\Ext w w':=by
 refine kg func56 fx fE ?_;obtain⟨A,c,rfl,W,X,F⟩:=T.op hB;obtain⟨Z,Q⟩:=N;refine fA ?_;refine gC (α:=Nat×i6) (λx=>[(0,.slice A l.length c),(1,.I lo),(2,.I hi),(7,x.2),(8,.I (x.1:Int))]) (ClI l lo hi w) (λx=>l.length-x.1) (0,.slice none 0 0) (sub ⟨rfl,rfl,rfl,rfl,rfl⟩) ⟨iF _,Ow.nil _ _ _,Fr.refl _ _⟩ ?_;rintro⟨i,v⟩ m ⟨M,g,f⟩;dsimp only at M g f|-
 by_cases fY:i<l.length
 .obtain⟨b,o,p,rfl,_,E,_,D⟩:=F.at_ fY;obtain⟨p0,p1,p2⟩:=Q p (jT E);have c0:gc m.drew b (o+i*2+0) (.I p.pos):=f.ed.cell (D 0 _ rfl);have c1:gc m.drew b (o+i*2+1) (.U p.data):=f.ed.cell (D 1 _ rfl);have d0:gc m.drew.drew b (o+i*2+0) (.I p.pos):=c0;have d1:gc m.drew.drew b (o+i*2+1) (.U p.data):=c1;have y:=OR lo hi E
  by_cases n:max lo p.pos<min hi (gU p)
  .have S:nf lo hi p=some ⟨max lo p.pos,(p.data.drop (max lo p.pos-p.pos).toNat).take (min hi (gU p)-max lo p.pos).toNat⟩:=if_pos n;rw[S,wD]at y;have L:max lo p.pos<min hi (p.pos+(p.data.length:Int)):=n
   repeat' (first|refine gH i (o+i*2) fx fx fx fx fx fY ?_|refine iE fx fx ?_|refine HV ?_|fail)
   refine Lx (max lo p.pos-p.pos).toNat (min hi (p.pos+(p.data.length:Int))-p.pos).toNat fx fx fx fx fy fy fy fy ?_;rw[show(min hi (p.pos+(p.data.length:Int))-p.pos).toNat-(max lo p.pos-p.pos).toNat=(min hi (p.pos+(p.data.length:Int))-max lo p.pos).toNat from by omega];obtain⟨q,hq⟩:∃q:hT,q=⟨max lo p.pos,(p.data.drop (max lo p.pos-p.pos).toNat).take (min hi (p.pos+(p.data.length:Int))-max lo p.pos).toNat⟩:=⟨_,rfl⟩;refine oQ (parts:=[(0,.tmp 42),(1,.tmp 62)]) (cells:=(kc q).toArray) (vs:=[(0,.I q.pos),(1,.U q.data)]) (by rw[hq];rfl) fE ?_;refine nV ks fx fx fU fU (λU G H ab=>?_);have C:Ext m U:=((Fr.drew _ _).t (Fr.drew _ _)).t H;have O:=qa (l.take i) lo hi;rw[kv]at O;have ad:=f.size;have ae:=C.size;refine jH (B:=w.heap.size) (news:=kc q) ks fx fU fx (g.ext C) fx (gQ G fU fx) fx (λu hu=>mh [_] u (by simpa using hu)) (by unfold maxLen;omega) fy fy (λv3 V J I _=>?_);have K:Ow kc 2 V w.heap.size 39 v3 (gZ (l.take i) lo hi++[q]):=Ow.ext1 (l':=[q]) (by simpa using J);refine fA ?_;exact gl ⟨(i+1,v3),sub ⟨rfl,rfl,rfl,rfl,rfl⟩,⟨fY,by dsimp only;rw[y];subst hq;exact K,(f.t C).trans I λj Y h=>by have:=(g.gO h).1;omega⟩,(by show l.length-(i+1)<l.length-i;omega)⟩
  .have R:nf lo hi p=none:=if_neg n;rw[R,Option.toList_none,mR]at y;have L:¬max lo p.pos<min hi (p.pos+(p.data.length:Int)):=n
   repeat' (first|refine gH i (o+i*2) fx fx fx fx fx fY ?_|refine iE fx fx ?_|refine HV ?_|fail)
   exact gl ⟨(i+1,v),sub ⟨rfl,rfl,rfl,rfl,rfl⟩,⟨fY,by dsimp only;rw[y];exact g.ext (Fr.drew _ _),f.d⟩,(by show l.length-(i+1)<l.length-i;omega)⟩
 .obtain rfl:i=l.length:=fy;rw[kh]at g;refine fA ?_;exact fB fx fx ⟨g,f⟩
def B9 (O r:ip hT):ip hT:=match O.getLast? with
 |none=>jG r
 |some c=>O.dropLast++l5 c r
def NW (r:ip hT):B9 [] r=jG r:=rfl
def qA (O:ip hT) (c:hT) (r:ip hT):B9 (O++[c]) r=O++l5 c r:=by
 unfold B9;rw[List.getLast?_concat,Dv]
structure JnI (l:List hT) (w0:World) (x:Nat×Value×List hT) (w:World):Prop where
 i:x.1<=l.length
 own:Ow kc 2 w w0.heap.size 39 x.2.1 x.2.2
 go:B9 x.2.2 (l.drop x.1)=jG l
 len:x.2.2.length<=x.1
 pos:∀p∈x.2.2,0<=p.pos/\p.pos<=4398046511104
 by_:fF x.2.2<=fF (l.take x.1)
 ext:Ext w0 w
def BN (l:ip hT) (i:Nat):fF (l.take i)<=fF l:=by
 conv=>rhs;rw[<-mJ i l,iK]
 omega
def Et (w:i5) (v:i6) (l:ip hT) (ax:Rw kc w v l) (ap:Oh l) (aC:fF l<=1000000000):fQ prog 59 #[v] w λr w'=>Ow kc 2 w' w.heap.size 39 r (jG l)/\Ext w w':=by
 refine gD func59 fx fE ?_;obtain⟨A,c,rfl,aE,aH,ai⟩:=ax.op hB;obtain⟨aK,aq⟩:=ap;refine fA ?_;refine gC (α:=Nat×i6×ip hT) (λx=>[(0,.slice A l.length c),(3,x.2.1),(4,.I (x.1:Int))]) (JnI l w) (λx=>l.length-x.1) (0,.slice none 0 0,[]) (sub ⟨rfl,rfl,rfl⟩) ⟨iF _,Ow.nil _ _ _,NW _,iF _,(λp I=>by cases I),iF _,Fr.refl _ _⟩ ?_;rintro⟨i,v,O⟩ C ⟨hi,y,f,hlen,J,R,n⟩;dsimp only at hi y f hlen J R n|-;obtain⟨ay,c1,rfl,aF,aG⟩:=y.form
 by_cases fY:i<l.length
 .obtain⟨b,o,p,rfl,_,I,al,S⟩:=ai.at_ fY;obtain⟨p0,p1,p2⟩:=aq p (jT I);have e0:gc C.drew b (o+i*2+0) (.I p.pos):=n.ed.cell (S 0 _ rfl);have aA:gc C.drew.drew b (o+i*2+1) (.U p.data):=n.ed.ed.cell (S 1 _ rfl);have ab:∀j u,(kc p)[j]? =some u->gc C.drew b (o+i*2+j) u:=λj u hu=>n.ed.cell (S j u hu)
  have X:=nA I;have aD:=BN l (i+1);rw[al]at f
  have W:∀V:ip hT,(V=O\/∃d q,O=d++[q]/\V=d++[q])->fF (O++[p])<=fF (l.take (i+1)):=λ_ _=>by
   rw[iK,X];simp only[fF];omega
  have ad:∀x∈O++[p],0<=x.pos/\x.pos<=4398046511104:=λx g=>by
   rcases iS.1 g with g|g
   .exact J x g
   .rw[jS.1 g];exact⟨p0,p1⟩
  have aN:=n.size;rcases Dq O with hO|⟨d,q,hO⟩
  .subst hO;have aL:([]:ip hT).length=0:=rfl
   have ao:B9 [p] (l.drop (i+1))=jG l:=by
    rw[<-f];exact qA [] p _
   refine zD ?_;refine hV (cs:=kc p) fx fx ab ?_;refine fA ?_;refine nV ks fx fx fU fU (λG K L au=>?_);have D:Ext C G:=(Fr.drew _ _).t L;have aw:=D.size;refine fA ?_;refine jH (B:=w.heap.size) (news:=kc p) ks fx fU fx (y.ext D) fx (gQ K fU fx) fx (λu hu=>mh [_] u (by simpa using hu)) fU fU fy (λv3 U N M _=>?_);have Q:Ow kc 2 U w.heap.size 39 v3 ([]++[p]):=Ow.ext1 (l':=[p]) (by simpa using N);refine fA ?_;exact gl ⟨(i+1,v3,[p]),sub ⟨rfl,rfl,rfl⟩,⟨fY,Q,ao,by dsimp only[List.length_cons,List.length_nil];omega,ad,W [] (.inl fx),(n.t D).trans M λj aa h=>by have:=(y.gO h).1;omega⟩,(by show l.length-(i+1)<l.length-i;omega)⟩
  .rw[D3]at hO;subst hO;obtain⟨q0,q1⟩:=J q iB;have F:(d++[q]).length=d.length+1:=by simp
   have aM:fF d+q.data.length<=fF (l.take i):=by
    rw[iK]at R;simp only[fF]at R;omega
   rw[qA,l5]at f;have T:(d++[q])[d.length]? =some q:=by simp
   obtain⟨E,az,ah,aI,aJ,_,_,Y⟩:=gK.go y (by rw[F];omega);injection ah with ae aB ag
   subst ae;subst ag;have r0:gc C.drew E (d.length*2+0) (.I q.pos):=Y _ _ (flat_get hB T (j:=0) rfl);have r1:gc C.drew E (d.length*2+1) (.U q.data):=Y _ _ (flat_get hB T (j:=1) rfl);have r2:gc C.drew.drew E (d.length*2+1) (.U q.data):=r1
   by_cases he:gU q=p.pos
   .rw[if_pos he]at f;have am:q.pos+(q.data.length:Int)=p.pos:=he
    repeat' (first|refine gH i (o+i*2) fx fx fx fx fx fY ?_|refine gH d.length (d.length*2) fx fx fx (by rw[F];omega) fy (by rw[F];omega) ?_|refine iE fx fx ?_|refine qN (a:=q.data) (b:=p.data) fx fx fy ?_|refine fT ?_|fail)
    refine abm (gK.ext y (Fr.ed (Fr.ed (Fr.refl _ _)))) fx fx fE fx (by rw[gn hB,F];omega) (λG H aj=>?_);rw[CW _ _ _ _ T]at H;obtain⟨m,hm⟩:∃m:hT,m=⟨q.pos,q.data++p.data⟩:=⟨_,rfl⟩;rw[<-hm]at H f;have av:(d++[q]).set d.length m=d++[m]:=by simp
    rw[av]at H;have af:(d++[m]).length=(d++[q]).length:=by simp
    have ak:Ow kc 2 G w.heap.size 39 (.S E 0 (d++[q]).length c1) (d++[m]):=by
     unfold Ow;rw[af];exact H
    refine fA ?_;refine gl ⟨(i+1,.S E 0 (d++[q]).length c1,d++[m]),sub ⟨rfl,rfl,rfl⟩,⟨fY,ak,?_,?_,λx g=>?_,?_,?_⟩,(by show l.length-(i+1)<l.length-i;omega)⟩
    .rw[qA];exact f
    .dsimp only;rw[ib]at hlen|-;simp only[iP,kL]at hlen|-;omega
    .rcases iS.1 g with g|g
     .exact J x (by simp[g])
     .rw[jS.1 g,hm];exact⟨q0,q1⟩
    .dsimp only;rw[iK,X,hm];simp only[fF,ib];omega
    .exact(n.ed.ed).trans aj λj aa h=>by have h:j=E:=h;omega
   .rw[if_neg he]at f;have am:¬q.pos+(q.data.length:Int)=p.pos:=he
    repeat' (first|refine gH i (o+i*2) fx fx fx fx fx fY ?_|refine gH d.length (d.length*2) fx fx fx (by rw[F];omega) fy (by rw[F];omega) ?_|refine iE fx fx ?_|refine fT ?_|fail)
    refine hV (cs:=kc p) fx fx ab ?_;refine fA ?_;refine nV ks fx fx fU fU (λG K L au=>?_);have D:Ext C G:=(Fr.drew _ _).t L;have aw:=D.size;refine fA ?_;refine jH (B:=w.heap.size) (news:=kc p) ks fx fU fx (y.ext D) fx (gQ K fU fx) fx (λu hu=>mh [_] u (by simpa using hu)) (by unfold maxLen;omega) fy fy (λv3 U N M _=>?_);have Q:Ow kc 2 U w.heap.size 39 v3 ((d++[q])++[p]):=Ow.ext1 (l':=[p]) (by simpa using N);refine fA ?_;refine gl ⟨(i+1,v3,(d++[q])++[p]),sub ⟨rfl,rfl,rfl⟩,⟨fY,Q,?_,?_,ad,W _ (.inl fx),(n.t D).trans M λj aa h=>by have:=(y.gO h).1;omega⟩,(by show l.length-(i+1)<l.length-i;omega)⟩
    .rw[qA,<-f];simp
    .dsimp only;rw[ib];simp only[iP,kL];omega
 .obtain rfl:i=l.length:=fy;rw[jP]at f
  have an:jG l=O:=by
   rw[<-f];unfold B9;cases Z:O.getLast? with
   |none=>rw[List.getLast?_eq_none_iff.1 Z];rfl
   |some q=>
    obtain⟨r,ar⟩:=List.getLast?_eq_some_iff.1 Z;rw[ar,Dv];rfl
  rw[an];refine fA ?_;exact fB fx fx ⟨y,n⟩
