/- Parts of the proof. -/
import Derived.Test.YtecaahegomdbbaaGreatDoorRmB4b
import Derived.Test.YtecaahegomdbbaaGreatDoorRmWh
set_option linter.all false
set_option maxRecDepth 99999
set_option maxHeartbeats 0
namespace Go.Proofs.YtecaahegomdbbaaGreatDoor.gr
open Go.Proofs.Tryz
open Go.RowKit
section
section
variable {hs:ip Nat} {H:i5->Prop} {full:Array li} {K:Env->i5->Prop} {ii:ip li} {Y:Env} {w:i5} {d:Tmp} {R:i9} {pos:String} {af:Array Edge}
def YW {t n:i9} {x y:i7} {a b:Nat} (g:gh Y x=some (.float .f64 (fw a))) (m:gh Y y=some (.float .f64 (fw b))) (u:a<=1099511627776) (v:b<=1099511627776) {r:Bool} (f:decide (b<=a)=r)
  (h:xs prog fD fC hs H full K ii ((d,.bool r)::Y) w):xs prog fD fC hs H full K (⟨some d,.binOp .geq t x y n,R,pos,af,none⟩::ii) Y w:=by
 refine jE g m (by rfl) (λw'=>?_) h;have hc:(binOp .geq t (.float .f64 (fw a)) (.float .f64 (fw b)))=pure (.bool (FloatKind.f64.format.order (fw a) (fw b)==some .gt||FloatKind.f64.format.order (fw a) (fw b)==some .eq)):=by simp[binOp,Op.floatCmp]
 rw[hc,zM fy fy,<-f];rcases zw a b with h|h|h
 .rw[DV.2 h,decide_eq_false fy];rfl
 .rw[Cf.2 h,decide_eq_true fy];rfl
 .rw[CF.2 h,decide_eq_true fy];rfl
end
attribute [local irreducible] xs T
def xj (w:i5) (v:Int):fQ prog 285 #[.I v] w λr w'=>r= .I (min (max v 0) 1099511627776)/\w=w':=by
 refine gD func285 fx fE ?_;refine KJ ?_;exact y2
def An (w:i5) (n:Nat) (d:n<=1099511627776):fQ prog 284 #[.float .f64 (fw n)] w λr w'=>r= .I (n:Int)/\w=w':=by
 refine gD func284 fx fE ?_;have em:∀Y:Env,gh Y (.const (.float .f64 4787326403894837248))=some (.float .f64 (fw 1099511627776)):=λY=>by rw[QY];rfl
 have f:∀Y:Env,gh Y (.const (.float .f64 0))=some (.float .f64 (fw 0)):=λY=>by rw[EZ];rfl
 by_cases h0:1099511627776<=n
 .obtain rfl:n=1099511627776:=fy
  repeat' (first|refine YW (r:=true) fx (em _) fy fy fU ?_|refine fT ?_|fail)
  exact y2
 .repeat' (first|refine YW (r:=false) fx (em _) d fy (decide_eq_false fy) ?_|refine YW (r:=true) fx (f _) d fy (decide_eq_true fy) ?_|refine aaW fx d ?_|refine fT ?_|fail)
  exact y2
def O7 (w:i5) (a l:Nat) (f:a<=1099511627776) (g:l<=1099511627776):fQ prog 235 #[.I (a:Int),.I (l:Int)] w λr w'=>r= .complex .f64 (fw a) (fw l)/\w=w':=by
 refine gP func235 fx fE ?_;refine fA ?_;refine fH fx fx (xj w a) (λr d h1=>?_);obtain⟨rfl,rfl⟩:=h1;rw[show min (max (a:Int) 0) 1099511627776=(a:Int)from by omega]
 repeat' (first|refine X7 a fx fx ?_|refine fT ?_|fail)
 refine fH fx fx (xj w l) (λr d h1=>?_);exact y28
def A4 (w:i5) (a l:Nat) (d:a<=1099511627776):fQ prog 234 #[.complex .f64 (fw a) (fw l)] w λr w'=>r= .I (a:Int)/\w=w':=by
 refine gD func234 fx fE ?_
 repeat' (first|refine O9 fx ?_|refine fT ?_|fail)
 refine fH fx fx (An w a d) (λr f h1=>?_);exact y8
def u1 (w:i5) (a l:Nat) (d:l<=1099511627776):fQ prog 233 #[.complex .f64 (fw a) (fw l)] w λr w'=>r= .I (l:Int)/\w=w':=by
 refine gD func233 fx fE ?_
 repeat' (first|refine Wv fx ?_|refine fT ?_|fail)
 refine fH fx fx (An w l d) (λr f h1=>?_);exact y8
def aa1 {hs:ip Nat} {H:i5->Prop} {full:Array li} {K:Env->i5->Prop} {ii:ip li} {Y:Env} {w:i5} {d:Tmp} {R:i9} {pos:String} {af:Array Edge} {x:i7} {p:Addr} {v:i6} (f:gh Y x=some (.pointer (some p))) (hc:∀w',H w'->w'.cell? p=some v)
  (h:xs prog fD fC hs H full K ii ((d,v)::Y) w) (hm:n4 hs (some d)=true:=by rfl):xs prog fD fC hs H full K (⟨some d,.load 157 x,R,pos,af,none⟩::ii) Y w:=by
 refine gW fx (by simp[gd,Op.operands,f]) ?_;have m:ja fD fC hs ⟨some d,.load 157 x,R,pos,af,none⟩= .h:=by simp[ja,cls,hm]
 rw[m];refine⟨v,λw' n=>?_,h⟩
 have g:(isAgg 157).run prog w'= .ok false w':=by
  unfold isAgg;simp only[tg,run_underlying underlying157,tp];simp
 simp[execOp,fR f,Instr.loadAt,Instr.sureAddr,loadVar,g,load,Sem.run,hc w' n]
def Eu (w:i5) (v:i6) (l:ip (Nat×Nat)) (size:Int) (H:Rw qG w v l) (F:J3 l):fQ prog 168 #[v,.I size] w λr w'=>r= .bool (decide (0<=size)&&decide (size<=1099511627776)&&wv size (-1) l)/\Ext w w':=by
 refine gP func168 fx fE ?_;obtain⟨A,c,rfl,I,J,C⟩:=H.op n0
 by_cases h0:¬0<=size
 .refine fA ?_;exact fB fx fx ⟨by simp[h0],Fr.refl _ _⟩
 have h0:0<=size:=fy
 by_cases h1:¬size<=1099511627776
 .refine fA ?_;exact fB fx fx ⟨by simp[h1],Fr.refl _ _⟩
 have h1:size<=1099511627776:=fy;rw[decide_eq_true h0,decide_eq_true h1,iV,iV];refine fA ?_;refine gC (α:=Nat×Int) (λx=>[(0,.slice A l.length c),(1,.I size),(5,.I x.2),(6,.I (x.1:Int))]) (λx w'=>Ext w w'/\x.1<=l.length/\wv size x.2 (l.drop x.1)=wv size (-1) l) (λx=>l.length-x.1) (0,-1) (sub ⟨rfl,rfl,rfl,rfl⟩) ⟨Fr.refl _ _,iF _,rfl⟩ ?_;rintro⟨i,last⟩ n ⟨m,hi,f⟩;dsimp only at m hi f|-
 by_cases fY:i<l.length
 .obtain⟨b,o,p,rfl,_,G,E,D⟩:=C.at_ fY;have u:=F p (jT G);have k0:=m.cell (D 0 _ rfl);rw[oR,kB]at k0;have y:gc n.drew b (o+i) (.complex .f64 (fw p.1) (fw p.2)):=k0;rw[E,wv]at f;refine P9 ?_;refine fH fx fx (u1 n p.1 p.2 u.2) (λr t B=>?_);obtain⟨rfl,rfl⟩:=B
  by_cases g0:p.2=0
  .rw[decide_eq_false (by simpa using g0),hW,hW]at f;exact y42
  rw[decide_eq_true (show p.2≠0 from g0),iV]at f;refine P9 ?_;refine fH fx fx (A4 n p.1 p.2 u.1) (λr t B=>?_);obtain⟨rfl,rfl⟩:=B
  by_cases g1:last<p.1
  .rw[decide_eq_true g1,iV]at f;refine fA ?_;refine lk [42] (λw'=>gc w' b (o+i) (.complex .f64 (fw p.1) (fw p.2))) fE (by decide+kernel) y ?_
   repeat' (first|refine kt i (o+i) fx fx fx fx fx fY ?_|refine KH fx y ?_|refine fT ?_|fail)
   refine fI fx fx (A4 n.drew p.1 p.2 u.1) ?_ ?_
   .rintro r t ⟨rfl,rfl⟩
    repeat' (first|refine kt i (o+i) fx fx fx fx fx fY ?_|refine aa1 fx (λw' h=>h) ?_|refine fT ?_|fail)
    refine fI fx fx (u1 n.drew p.1 p.2 u.2) ?_ ?_
    .rintro r t ⟨rfl,rfl⟩;refine fA ?_;exact gl ⟨(i+1,(p.1:Int)+p.2),sub ⟨rfl,rfl,rfl,rfl⟩,⟨m.d,by dsimp only;omega,f⟩,(by show l.length-(i+1)<l.length-i;omega)⟩
    .rintro r t ⟨_,rfl⟩;exact y
   .rintro r t ⟨_,rfl⟩;exact y
  .rw[decide_eq_false g1,hW]at f;exact y42
 .obtain rfl:i=l.length:=fy;rw[jP,wv]at f
  by_cases g:last<=size
  .rw[decide_eq_true g]at f;exact y42
  .rw[decide_eq_false g]at f;exact y42
def xl (w:i5) (x:gG) (F:im w x) (y:fF x.n.data<=1000000):fQ prog 38 #[.agg (gB x).toArray] w λr w'=>r= .I (fF x.n.data:Int)/\Ext w w':=by
 refine gD func38 fx fE ?_;refine fA ?_;refine hP fx (λf v m I=>?_);have u:fW f w.heap.size 37 (gB x).toArray:=v;obtain⟨A,c,t,B,G,g⟩:=F.d.op hB;have k8:f.cell? ⟨w.heap.size,8,none⟩=some (.slice A x.n.data.length c):=by rw[<-t];exact u.cell 8
 obtain⟨l,D⟩:∃l,l=x.n.data:=⟨_,rfl⟩;rw[<-D]at g B k8 y|-;refine fA ?_;refine gC (α:=Nat) (λi=>[(1,.P w.heap.size),(3,.I (fF (l.take i):Int)),(4,.I (i:Int))]) (λi w'=>f=w'/\i<=l.length) (λi=>l.length-i) 0 (sub ⟨rfl,rfl,rfl⟩) ⟨rfl,iF _⟩ ?_;rintro i K ⟨rfl,hi⟩
 by_cases fY:i<l.length
 .obtain⟨b,o,p,rfl,_,E,H,C⟩:=g.at_ fY;have q1:gc f b (o+i*2+1) (.U p.data):=m.cell (C 1 _ rfl);have hle:=sV l (i+1);have J:=nA E;refine Zr ?_;exact gl ⟨i+1,sub ⟨rfl,km fy,rfl⟩,⟨rfl,fy⟩,(by show l.length-(i+1)<l.length-i;omega)⟩
 .obtain rfl:i=l.length:=fy;refine fA ?_;exact fB fx fx ⟨by rw[kh],m⟩
def BS (w:i5) (x:gG) (Y:im w x) (I:x.n.data.all j3=true) (S:fF x.n.data<=1000000) (V:x.n.data.length<=1000):fQ prog 169 #[.agg (gB x).toArray] w λr w'=>Ow qG 1 w' w.heap.size 157 r (jJ x.n.data)/\Ext w w':=by
 refine gD func169 fx fE ?_;refine fA ?_;refine hP fx (λC O B ag=>?_);have N:fW C w.heap.size 37 (gB x).toArray:=O;obtain⟨A,c,L,T,ab,E⟩:=Y.d.op hB;have k8:C.cell? ⟨w.heap.size,8,none⟩=some (.slice A x.n.data.length c):=by rw[<-L];exact N.cell 8
 obtain⟨l,U⟩:∃l,l=x.n.data:=⟨_,rfl⟩;rw[<-U]at E T k8 S I V|-;refine fA ?_;refine gC (α:=Nat×i6) (λy=>[(1,.P w.heap.size),(3,y.2),(4,.I (y.1:Int))]) (ExI l C) (λy=>l.length-y.1) (0,.slice none 0 0) (sub ⟨rfl,rfl,rfl⟩) ⟨iF _,Ow.nil _ _ _,Fr.refl _ _⟩ ?_;rintro⟨i,v⟩ g ⟨hi,m,f⟩;dsimp only at hi m f|-;have m8:gc g w.heap.size 8 (.slice A l.length c):=f.cell k8;have aj:gc g.drew w.heap.size 8 (.slice A l.length c):=m8
 by_cases fY:i<l.length
 .obtain⟨b,o,p,rfl,_,J,ad,G⟩:=E.at_ fY;have hm:=jT J;have H:=ld.1 I p hm;simp only[j3,iU,decide_eq_true_eq]at H;have hlen:=oa hm;obtain⟨a,F⟩:=lZ H.1.2;have q0:g.drew.cell? ⟨b,o+i*2+0,none⟩=some (.I (a:Int)):=by rw[<-F];exact f.cell (B.cell (G 0 _ rfl))
  have q1:gc g.drew b (o+i*2+1) (.U p.data):=f.cell (B.cell (G 1 _ rfl));refine Zr ?_;refine fH fx fx (O7 g.drew a p.data.length fy fy) (λr Z M=>?_);obtain⟨rfl,rfl⟩:=M;refine fA ?_;refine FG (vs:=qG (a,p.data.length)) mW fx fx fU fU (λu hu=>by rw[jS.1 hu];rfl) (λZ Q D ah=>?_);have af:(jJ (l.take i)).length=i:=by simp[jJ];omega
  refine jH (news:=qG (a,p.data.length)) mW fx fU fx (gK.ext (gK.ext m (Fr.drew _ _)) D) fx (gQ Q fU fx) fx (λu hu=>by rw[jS.1 hu];rfl) (by unfold maxLen;omega) fy (by have:=f.size;have:=D.size;have:g.drew.heap.size=g.heap.size:=rfl;omega) (λK aa W R ai=>?_)
  have X:Ow qG 1 aa C.heap.size 157 K (jJ (l.take (i+1))):=by
   have e:jJ (l.take (i+1))=jJ (l.take i)++[(a,p.data.length)]:=by
    unfold jJ;rw[j2,J,wD,pw,Wx,F];rfl
   rw[e];exact Ow.ext1 (l':=[(a,p.data.length)]) (by simpa using W)
  refine fA ?_;exact gl ⟨(i+1,K),sub ⟨rfl,rfl,rfl⟩,⟨by dsimp only;omega,X,Ext.te (f.d.t D) R λj ae e=>by have:=(m.gO e).1;omega⟩,(by show l.length-(i+1)<l.length-i;omega)⟩
 .obtain rfl:i=l.length:=fy;rw[kh]at m;refine fA ?_;exact fB fx fx ⟨m.mono B.size,B.t f⟩
def MV (n:Nd):jV n=(n.data.all j3&&(decide (0<=n.size)&&(decide (n.size<=1099511627776)&&(decide (fF n.data<=4000)&&(decide (n.data.length<=16)&&xY n.size (-1) n.data))))):=by
 unfold jV;cases n.data.all j3<;>cases decide (0<=n.size)<;>cases decide (n.size<=1099511627776)<;>cases decide (fF n.data<=4000)<;>cases decide (n.data.length<=16)<;>simp
def JP (w:i5) (x:gG) (K:im w x) (D:fF x.n.data<=1000000):fQ prog 105 #[.agg (gB x).toArray] w λr w'=>r= .bool (jV x.n)/\Ext w w':=by
 refine gD func105 fx fE ?_;rw[MV];refine fA ?_;refine hP fx (λf S m ae=>?_);have H:fW f w.heap.size 37 (gB x).toArray:=S;obtain⟨A,c,R,V,ab,L⟩:=K.d.op hB;have k7:gc f w.heap.size 7 (.I x.n.size):=H.cell 7;have F:gc f.drew w.heap.size 7 (.I x.n.size):=k7;have k8:f.cell? ⟨w.heap.size,8,none⟩=some (.slice A x.n.data.length c):=by rw[<-R];exact H.cell 8
 obtain⟨l,y⟩:∃l,l=x.n.data:=⟨_,rfl⟩;have U:=D;rw[<-y]at L V k8 U|-;refine fA ?_;refine gC (α:=Nat) (λi=>[(1,.P w.heap.size),(3,.I (i:Int))]) (λi w'=>f=w'/\i<=l.length/\(l.drop i).all j3=l.all j3) (λi=>l.length-i) 0 (sub ⟨rfl,rfl⟩) ⟨rfl,iF _,rfl⟩ ?_;rintro i ag ⟨rfl,hi,u⟩
 by_cases fY:i<l.length
 .obtain⟨b,o,p,rfl,_,ad,W,N⟩:=L.at_ fY;rw[W,ra]at u;have q0:gc f b (o+i*2+0) (.I p.pos):=m.cell (N 0 _ rfl);have q1:gc f b (o+i*2+1) (.U p.data):=m.cell (N 1 _ rfl);have e0:p.data.length=0↔p.data=[]:=zT;cases E:j3 p with
  |false=>
   rw[E,hW]at u;rw[<-u,hW]
   by_cases g2:p.pos<0
   .refine Zr ?_;exact fB fx fx ⟨rfl,m⟩
   by_cases g3:1099511627776<p.pos
   .refine Zr ?_;exact fB fx fx ⟨rfl,m⟩
   have g1:p.data.length=0:=e0.2 ((Gp E).resolve_right (λh=>h.elim g2 g3));refine Zr ?_;exact fB fx fx ⟨rfl,m⟩
  |true=>
   rw[E,iV]at u;have hk:=E;simp only[j3,iU,decide_eq_true_eq]at hk;obtain⟨⟨g1,g2⟩,g3⟩:=hk;have g1:¬p.data.length=0:=λh=>g1 (e0.1 h)
   refine Zr ?_;exact gl ⟨i+1,sub ⟨rfl,rfl⟩,⟨rfl,fy,u⟩,(by show l.length-(i+1)<l.length-i;omega)⟩
 .have X:i=l.length:=fy;subst X;rw[jP]at u;have J:x.n.data.all j3=true:=by rw[<-y,<-u];rfl
  rw[<-u,Gf,iV];have M:fW f.drew w.heap.size 37 (gB x).toArray:=H;have Z:gc f.drew w.heap.size 8 (.slice A l.length c):=k8;refine fA ?_;refine lk [60] (λw'=>gc w' w.heap.size 7 (.I x.n.size)) fE (by decide+kernel) F ?_
  by_cases h0:0<=x.n.size
  case neg=>
   refine fA ?_;exact fB fx fx ⟨by simp[h0],m.d⟩
  by_cases h1:x.n.size<=1099511627776
  case neg=>
   refine fA ?_;exact fB fx fx ⟨by simp[h1],m.d⟩
  rw[decide_eq_true h0,decide_eq_true h1,iV,iV];refine fA ?_;refine gR (t:=37) M fx fx ?_;refine fA ?_;refine fI fx fx (xl f.drew x (K.ext m.d) D) ?_ ?_
  .rintro r G ⟨rfl,v⟩;rw[<-y];have B:=m.d.t v;have T:fW G w.heap.size 37 (gB x).toArray:=M.ext v;have af:gc G w.heap.size 8 (.slice A l.length c):=v.cell Z
   by_cases g:fF l<=4000
   case neg=>
    refine fA ?_;exact fB fx fx ⟨by simp[g],B⟩
   by_cases g2:l.length<=16
   case neg=>
    refine fA ?_;exact fB fx fx ⟨by simp[g2],B⟩
   rw[decide_eq_true g,decide_eq_true g2,iV,iV];refine fA ?_;refine gR (t:=37) T fx fx ?_;refine fA ?_;refine fI fx fx (BS G x (K.ext B) J D (by rw[<-y];omega)) ?_ ?_
   .rintro r Q ⟨Y,C⟩;have O:=Y.rw;rw[<-y]at O
    repeat' (first|refine pG fx fx (λw' h=>h) ?_|refine fT ?_|fail)
    refine fI fx fx (Eu Q r (jJ l) x.n.size O (by rw[y];exact MB J D)) ?_ ?_
    .rintro r aa ⟨rfl,I⟩;rw[decide_eq_true h0,decide_eq_true h1,iV,iV,EB _ _ _ (by rw[y];exact J)];refine fA ?_;exact fB fx fx ⟨rfl,B.t (C.t I)⟩
    .rintro r aa ⟨_,I⟩;exact I.cell (C.cell (v.cell F))
   .rintro r Q ⟨_,C⟩;exact C.cell (v.cell F)
  .rintro r G ⟨_,v⟩;exact v.cell F
