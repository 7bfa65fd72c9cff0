/- Parts of the proof. -/
import Derived.Test.YtecaahegomdbbaaGreatDoorRfB4b
import Derived.Test.YtecaahegomdbbaaGreatDoorRfWh
set_option linter.all false
set_option maxRecDepth 100000
set_option maxHeartbeats 64000000
namespace Go.Proofs.YtecaahegomdbbaaGreatDoor.gp
open Go.Proofs.Tryz
open Go.RowKit
section
section
variable {hs:List Nat} {H:World->Prop} {full:Array Oper} {K:Env->World->Prop} {rest:List Oper} {env:Env} {w:World} {d:Tmp} {ty:TypeId} {pos:String} {af:Array Edge}
theorem X7 {t n:TypeId} {x y:Operand} {a b:Nat} (g:gh env x=some (.float .f64 (fw a))) (m:gh env y=some (.float .f64 (fw b))) (s:a<=1099511627776) (u:b<=1099511627776) {r:Bool} (f:decide (b<=a)=r)
  (h:xs prog fD fC hs H full K rest ((d,.bool r)::env) w):xs prog fD fC hs H full K (⟨some d,.binOp .geq t x y n,ty,pos,af,none⟩::rest) env w:=by
 refine jA g m (by rfl) (λw'=>?_) h;have hc:(binOp .geq t (.float .f64 (fw a)) (.float .f64 (fw b)))=pure (.bool (FloatKind.f64.format.order (fw a) (fw b)==some .gt||FloatKind.f64.format.order (fw a) (fw b)==some .eq)):=by simp[binOp,Op.floatCmp]
 rw[hc,zl fy fy,←f];rcases zy a b with h|h|h
 ·rw[BQ.2 h,decide_eq_false fy];rfl
 ·rw[BY.2 h,decide_eq_true fy];rfl
 ·rw[Ch.2 h,decide_eq_true fy];rfl
end
attribute [local irreducible] xs T
theorem xc (w:World) (v:Int):fL prog 285 #[.int .i64 v] w λr w'=>r= .int .i64 (min (max v 0) 1099511627776)/\w=w':=by
 refine gr func285 fx fF ?_;refine MI ?_;exact y2
theorem AL (w:World) (n:Nat) (a:n<=1099511627776):fL prog 284 #[.float .f64 (fw n)] w λr w'=>r= .int .i64 (n:Int)/\w=w':=by
 refine gr func284 fx fF ?_;have em:∀env:Env,gh env (.const (.float .f64 4787326403894837248))=some (.float .f64 (fw 1099511627776)):=λenv=>by rw[Rm];rfl
 have d:∀env:Env,gh env (.const (.float .f64 0))=some (.float .f64 (fw 0)):=λenv=>by rw[Eg];rfl
 by_cases h0:1099511627776<=n
 ·obtain rfl:n=1099511627776:=fy
  repeat' (first|refine X7 (r:=true) rfl (em _) fy fy fV ?_|refine fT ?_|fail)
  exact y2
 ·repeat' (first|refine X7 (r:=false) rfl (em _) a fy (decide_eq_false fy) ?_|refine X7 (r:=true) rfl (d _) a fy (decide_eq_true fy) ?_|refine Y3 rfl a ?_|refine fT ?_|fail)
  exact y2
theorem QJ (w:World) (a l:Nat) (f:a<=1099511627776) (g:l<=1099511627776):fL prog 235 #[.int .i64 (a:Int),.int .i64 (l:Int)] w λr w'=>r= .complex .f64 (fw a) (fw l)/\w=w':=by
 refine gK func235 fx fF ?_;refine fA ?_;refine fG fx fx (xc w a) (λr d h1=>?_);obtain⟨rfl,rfl⟩:=h1;rw[show min (max (a:Int) 0) 1099511627776=(a:Int)from by omega]
 repeat' (first|refine X4 a rfl rfl ?_|refine fT ?_|fail)
 refine fG fx fx (xc w l) (λr d h1=>?_);exact y28
theorem Av (w:World) (a l:Nat) (d:a<=1099511627776):fL prog 234 #[.complex .f64 (fw a) (fw l)] w λr w'=>r= .int .i64 (a:Int)/\w=w':=by
 refine gr func234 fx fF ?_
 repeat' (first|refine Pr rfl ?_|refine fT ?_|fail)
 refine fG fx fx (AL w a d) (λr f h1=>?_);exact y9
theorem uv (w:World) (a l:Nat) (d:l<=1099511627776):fL prog 233 #[.complex .f64 (fw a) (fw l)] w λr w'=>r= .int .i64 (l:Int)/\w=w':=by
 refine gr func233 fx fF ?_
 repeat' (first|refine U0 rfl ?_|refine fT ?_|fail)
 refine fG fx fx (AL w l d) (λr f h1=>?_);exact y9
theorem Zy {hs:List Nat} {H:World->Prop} {full:Array Oper} {K:Env->World->Prop} {rest:List Oper} {env:Env} {w:World} {d:Tmp} {ty:TypeId} {pos:String} {af:Array Edge} {x:Operand} {p:Addr} {v:Value} (a:gh env x=some (.pointer (some p))) (hc:∀w',H w'->w'.cell? p=some v)
  (h:xs prog fD fC hs H full K rest ((d,v)::env) w) (hm:nK hs (some d)=true:=by rfl):xs prog fD fC hs H full K (⟨some d,.load 157 x,ty,pos,af,none⟩::rest) env w:=by
 refine gR fx (by simp[fX,Op.operands,a]) ?_;have g:iT fD fC hs ⟨some d,.load 157 x,ty,pos,af,none⟩= .h:=by simp[iT,cls,hm]
 rw[g];refine⟨v,λw' m=>?_,h⟩
 have f:(isAgg 157).run prog w'= .ok false w':=by
  unfold isAgg;simp only[sD,run_underlying underlying157,sM];simp
 simp[execOp,fM a,Instr.loadAt,Instr.sureAddr,loadVar,f,load,Sem.run,hc w' m]
theorem Dv (w:World) (v:Value) (l:List (Nat×Nat)) (size:Int) (F:Rw qy w v l) (D:J8 l):fL prog 168 #[v,.int .i64 size] w λr w'=>r= .bool (decide (0<=size)&&decide (size<=1099511627776)&&vW size (-1) l)/\Ext w w':=by
 refine gK func168 fx fF ?_;obtain⟨A,c,rfl,G,H,y⟩:=F.op nO
 by_cases h0:¬0<=size
 ·refine fA ?_;exact fB fx fx ⟨by simp[h0],Fr.refl _ _⟩
 have h0:0<=size:=fy
 by_cases h1:¬size<=1099511627776
 ·refine fA ?_;exact fB fx fx ⟨by simp[h1],Fr.refl _ _⟩
 have h1:size<=1099511627776:=fy;rw[decide_eq_true h0,decide_eq_true h1,iU,iU];refine fA ?_;refine gA (α:=Nat×Int) (λx=>[(0,.slice A l.length c),(1,.int .i64 size),(5,.int .i64 x.2),(6,.int .i64 (x.1:Int))]) (λx w'=>Ext w w'/\x.1<=l.length/\vW size x.2 (l.drop x.1)=vW size (-1) l) (λx=>l.length-x.1) (0,-1) (sub ⟨rfl,rfl,rfl,rfl⟩) ⟨Fr.refl _ _,iy _,rfl⟩ ?_;rintro⟨i,last⟩ m ⟨f,hi,a⟩;dsimp only at f hi a⊢
 by_cases fW:i<l.length
 ·obtain⟨b,o,p,rfl,_,E,C,B⟩:=y.at_ fW;have s:=D p (jS E);have k0:=f.cell (B 0 _ rfl);rw[ph,kS]at k0;have t:m.drew.cell? ⟨b,o+i,none⟩=some (.complex .f64 (fw p.1) (fw p.2)):=k0;rw[C,vW]at a;refine Qm ?_;refine fG fx fx (uv m p.1 p.2 s.2) (λr n u=>?_);obtain⟨rfl,rfl⟩:=u
  by_cases g0:p.2=0
  ·rw[decide_eq_false (by simpa using g0),hW,hW]at a;exact y40
  rw[decide_eq_true (show p.2≠0 from g0),iU]at a;refine Qm ?_;refine fG fx fx (Av m p.1 p.2 s.1) (λr n u=>?_);obtain⟨rfl,rfl⟩:=u
  by_cases g1:last<p.1
  ·rw[decide_eq_true g1,iU]at a;refine fA ?_;refine kZ [42] (λw'=>w'.cell? ⟨b,o+i,none⟩=some (.complex .f64 (fw p.1) (fw p.2))) fF (by decide+kernel) t ?_
   repeat' (first|refine kV i (o+i) rfl rfl rfl rfl rfl fW ?_|refine IV rfl t ?_|refine fT ?_|fail)
   refine fI fx fx (Av m.drew p.1 p.2 s.1) ?_ ?_
   ·rintro r n ⟨rfl,rfl⟩
    repeat' (first|refine kV i (o+i) rfl rfl rfl rfl rfl fW ?_|refine Zy rfl (λw' h=>h) ?_|refine fT ?_|fail)
    refine fI fx fx (uv m.drew p.1 p.2 s.2) ?_ ?_
    ·rintro r n ⟨rfl,rfl⟩;refine fA ?_;exact gn ⟨(i+1,(p.1:Int)+p.2),sub ⟨rfl,rfl,rfl,rfl⟩,⟨f.d,by dsimp only;omega,a⟩,(by show l.length-(i+1)<l.length-i;omega)⟩
    ·rintro r n ⟨_,rfl⟩;exact t
   ·rintro r n ⟨_,rfl⟩;exact t
  ·rw[decide_eq_false g1,hW]at a;exact y40
 ·obtain rfl:i=l.length:=fy;rw[jJ,vW]at a
  by_cases g:last<=size
  ·rw[decide_eq_true g]at a;exact y40
  ·rw[decide_eq_false g]at a;exact y40
theorem rL (w:World) (x:gG) (D:ix w x) (u:fE x.n.data<=1000000):fL prog 38 #[.agg (gz x).toArray] w λr w'=>r= .int .i64 (fE x.n.data:Int)/\Ext w w':=by
 refine gr func38 fx fF ?_;refine fA ?_;refine hD fx (λa t g G=>?_);have s:fU a w.heap.size 37 (gz x).toArray:=t;obtain⟨A,c,m,v,E,f⟩:=D.d.op ha;have k8:a.cell? ⟨w.heap.size,8,none⟩=some (.slice A x.n.data.length c):=by rw[←m];exact s.cell 8
 obtain⟨l,B⟩:∃l,l=x.n.data:=⟨_,rfl⟩;rw[←B]at f v k8 u⊢;refine fA ?_;refine gA (α:=Nat) (λi=>[(1,.pointer (some ⟨w.heap.size,0,none⟩)),(3,.int .i64 (fE (l.take i):Int)),(4,.int .i64 (i:Int))]) (λi w'=>a=w'/\i<=l.length) (λi=>l.length-i) 0 (sub ⟨rfl,rfl,rfl⟩) ⟨rfl,iy _⟩ ?_;rintro i I ⟨rfl,hi⟩
 by_cases fW:i<l.length
 ·obtain⟨b,o,p,rfl,_,C,F,y⟩:=f.at_ fW;have q1:a.cell? ⟨b,o+i*2+1,none⟩=some (.string (su p.data)):=g.cell (y 1 _ rfl);have hle:=so l (i+1);have H:=mZ C;refine YG ?_;exact gn ⟨i+1,sub ⟨rfl,jX fy,rfl⟩,⟨rfl,fy⟩,(by show l.length-(i+1)<l.length-i;omega)⟩
 ·obtain rfl:i=l.length:=fy;refine fA ?_;exact fB fx fx ⟨by rw[km],g⟩
theorem Bn (w:World) (x:gG) (X:ix w x) (H:x.n.data.all jW=true) (R:fE x.n.data<=1000000) (U:x.n.data.length<=1000):fL prog 169 #[.agg (gz x).toArray] w λr w'=>Ow qy 1 w' w.heap.size 157 r (jE x.n.data)/\Ext w w':=by
 refine gr func169 fx fF ?_;refine fA ?_;refine hD fx (λB N s af=>?_);have M:fU B w.heap.size 37 (gz x).toArray:=N;obtain⟨A,c,K,S,aa,D⟩:=X.d.op ha;have k8:B.cell? ⟨w.heap.size,8,none⟩=some (.slice A x.n.data.length c):=by rw[←K];exact M.cell 8
 obtain⟨l,T⟩:∃l,l=x.n.data:=⟨_,rfl⟩;rw[←T]at D S k8 R H U⊢;refine fA ?_;refine gA (α:=Nat×Value) (λy=>[(1,.pointer (some ⟨w.heap.size,0,none⟩)),(3,y.2),(4,.int .i64 (y.1:Int))]) (ExI l B) (λy=>l.length-y.1) (0,.slice none 0 0) (sub ⟨rfl,rfl,rfl⟩) ⟨iy _,Ow.nil _ _ _,Fr.refl _ _⟩ ?_;rintro⟨i,v⟩ g ⟨hi,m,f⟩;dsimp only at hi m f⊢;have m8:g.cell? ⟨w.heap.size,8,none⟩=some (.slice A l.length c):=f.cell k8;have ai:g.drew.cell? ⟨w.heap.size,8,none⟩=some (.slice A l.length c):=m8
 by_cases fW:i<l.length
 ·obtain⟨b,o,p,rfl,_,I,ab,F⟩:=D.at_ fW;have hm:=jS I;have G:=lj.1 H p hm;simp only[jW,iO,decide_eq_true_eq]at G;have hlen:=nR hm;obtain⟨a,E⟩:=lO G.1.2;have q0:g.drew.cell? ⟨b,o+i*2+0,none⟩=some (.int .i64 (a:Int)):=by rw[←E];exact f.cell (s.cell (F 0 _ rfl))
  have q1:g.drew.cell? ⟨b,o+i*2+1,none⟩=some (.string (su p.data)):=f.cell (s.cell (F 1 _ rfl));refine YG ?_;refine fG fx fx (QJ g.drew a p.data.length fy fy) (λr Y L=>?_);obtain⟨rfl,rfl⟩:=L;refine fA ?_;refine Ia (vs:=qy (a,p.data.length)) mJ fx fx fV fV (λu hu=>by rw[kl.1 hu];rfl) (λY O C ag=>?_);have ae:(jE (l.take i)).length=i:=by simp[jE];omega
  refine jI (news:=qy (a,p.data.length)) mJ fx fV fx (gD.ext (gD.ext m (Fr.drew _ _)) C) fx (gS O fV fx) fx (λu hu=>by rw[kl.1 hu];rfl) (by unfold maxLen;omega) fy (by have:=f.size;have:=C.size;have:g.drew.heap.size=g.heap.size:=rfl;omega) (λJ Z V Q ah=>?_)
  have W:Ow qy 1 Z B.heap.size 157 J (jE (l.take (i+1))):=by
   have e:jE (l.take (i+1))=jE (l.take i)++[(a,p.data.length)]:=by
    unfold jE;rw[kO,I,xN,pE,VI,E];rfl
   rw[e];exact Ow.ext1 (l':=[(a,p.data.length)]) (by simpa using V)
  refine fA ?_;exact gn ⟨(i+1,J),sub ⟨rfl,rfl,rfl⟩,⟨by dsimp only;omega,W,Ext.te (f.d.t C) Q λj ad e=>by have:=(m.gH e).1;omega⟩,(by show l.length-(i+1)<l.length-i;omega)⟩
 ·obtain rfl:i=l.length:=fy;rw[km]at m;refine fA ?_;exact fB fx fx ⟨m.mono s.size,s.t f⟩
theorem MN (n:Nd):jP n=(n.data.all jW&&(decide (0<=n.size)&&(decide (n.size<=1099511627776)&&(decide (fE n.data<=4000)&&(decide (n.data.length<=16)&&w9 n.size (-1) n.data))))):=by
 unfold jP;cases n.data.all jW<;>cases decide (0<=n.size)<;>cases decide (n.size<=1099511627776)<;>cases decide (fE n.data<=4000)<;>cases decide (n.data.length<=16)<;>simp
theorem Iw (w:World) (x:gG) (I:ix w x) (B:fE x.n.data<=1000000):fL prog 105 #[.agg (gz x).toArray] w λr w'=>r= .bool (jP x.n)/\Ext w w':=by
 refine gr func105 fx fF ?_;rw[MN];refine fA ?_;refine hD fx (λa Q f ab=>?_);have F:fU a w.heap.size 37 (gz x).toArray:=Q;obtain⟨A,c,O,T,Z,J⟩:=I.d.op ha;have k7:a.cell? ⟨w.heap.size,7,none⟩=some (.int .i64 x.n.size):=F.cell 7;have D:a.drew.cell? ⟨w.heap.size,7,none⟩=some (.int .i64 x.n.size):=k7;have k8:a.cell? ⟨w.heap.size,8,none⟩=some (.slice A x.n.data.length c):=by rw[←O];exact F.cell 8
 obtain⟨l,u⟩:∃l,l=x.n.data:=⟨_,rfl⟩;have S:=B;rw[←u]at J T k8 S⊢;refine fA ?_;refine gA (α:=Nat) (λi=>[(1,.pointer (some ⟨w.heap.size,0,none⟩)),(3,.int .i64 (i:Int))]) (λi w'=>a=w'/\i<=l.length/\(l.drop i).all jW=l.all jW) (λi=>l.length-i) 0 (sub ⟨rfl,rfl⟩) ⟨rfl,iy _,rfl⟩ ?_;rintro i ae ⟨rfl,hi,m⟩
 by_cases fW:i<l.length
 ·obtain⟨b,o,p,rfl,_,aa,U,L⟩:=J.at_ fW;rw[U,rJ]at m;have q0:a.cell? ⟨b,o+i*2+0,none⟩=some (.int .i64 p.pos):=f.cell (L 0 _ rfl);have q1:a.cell? ⟨b,o+i*2+1,none⟩=some (.string (su p.data)):=f.cell (L 1 _ rfl);have e0:p.data.length=0↔p.data=[]:=zJ;cases C:jW p with
  |false=>
   rw[C,hW]at m;rw[←m,hW]
   by_cases g2:p.pos<0
   ·refine YG ?_;exact fB fx fx ⟨rfl,f⟩
   by_cases g3:1099511627776<p.pos
   ·refine YG ?_;exact fB fx fx ⟨rfl,f⟩
   have g1:p.data.length=0:=e0.2 ((FI C).resolve_right (λh=>h.elim g2 g3));refine YG ?_;exact fB fx fx ⟨rfl,f⟩
  |true=>
   rw[C,iU]at m;have hk:=C;simp only[jW,iO,decide_eq_true_eq]at hk;obtain⟨⟨g1,g2⟩,g3⟩:=hk;have g1:¬p.data.length=0:=λh=>g1 (e0.1 h)
   refine YG ?_;exact gn ⟨i+1,sub ⟨rfl,rfl⟩,⟨rfl,fy,m⟩,(by show l.length-(i+1)<l.length-i;omega)⟩
 ·have V:i=l.length:=fy;subst V;rw[jJ]at m;have H:x.n.data.all jW=true:=by rw[←u,←m];rfl
  rw[←m,Fq,iU];have K:fU a.drew w.heap.size 37 (gz x).toArray:=F;have X:a.drew.cell? ⟨w.heap.size,8,none⟩=some (.slice A l.length c):=k8;refine fA ?_;refine kZ [60] (λw'=>w'.cell? ⟨w.heap.size,7,none⟩=some (.int .i64 x.n.size)) fF (by decide+kernel) D ?_
  by_cases h0:0<=x.n.size
  case neg=>
   refine fA ?_;exact fB fx fx ⟨by simp[h0],f.d⟩
  by_cases h1:x.n.size<=1099511627776
  case neg=>
   refine fA ?_;exact fB fx fx ⟨by simp[h1],f.d⟩
  rw[decide_eq_true h0,decide_eq_true h1,iU,iU];refine fA ?_;refine gM (t:=37) K fx fx ?_;refine fA ?_;refine fI fx fx (rL a.drew x (I.ext f.d) B) ?_ ?_
  ·rintro r E ⟨rfl,s⟩;rw[←u];have v:=f.d.t s;have R:fU E w.heap.size 37 (gz x).toArray:=K.ext s;have ad:E.cell? ⟨w.heap.size,8,none⟩=some (.slice A l.length c):=s.cell X
   by_cases g:fE l<=4000
   case neg=>
    refine fA ?_;exact fB fx fx ⟨by simp[g],v⟩
   by_cases g2:l.length<=16
   case neg=>
    refine fA ?_;exact fB fx fx ⟨by simp[g2],v⟩
   rw[decide_eq_true g,decide_eq_true g2,iU,iU];refine fA ?_;refine gM (t:=37) R fx fx ?_;refine fA ?_;refine fI fx fx (Bn E x (I.ext v) H B (by rw[←u];omega)) ?_ ?_
   ·rintro r N ⟨W,y⟩;have M:=W.rw;rw[←u]at M
    repeat' (first|refine rO rfl rfl (λw' h=>h) ?_|refine fT ?_|fail)
    refine fI fx fx (Dv N r (jE l) x.n.size M (by rw[u];exact Km H B)) ?_ ?_
    ·rintro r Y ⟨rfl,G⟩;rw[decide_eq_true h0,decide_eq_true h1,iU,iU,DQ _ _ _ (by rw[u];exact H)];refine fA ?_;exact fB fx fx ⟨rfl,v.t (y.t G)⟩
    ·rintro r Y ⟨_,G⟩;exact G.cell (y.cell (s.cell D))
   ·rintro r N ⟨_,y⟩;exact y.cell (s.cell D)
  ·rintro r E ⟨_,s⟩;exact s.cell D
end
end Go.Proofs.YtecaahegomdbbaaGreatDoor.gp
