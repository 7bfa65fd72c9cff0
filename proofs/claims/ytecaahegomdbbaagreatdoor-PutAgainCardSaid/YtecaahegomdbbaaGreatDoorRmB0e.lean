/- Parts of the proof. -/
import Derived.Below
import Derived.ChangeSame
import Derived.ChangeSlices
import Derived.Deep.Strs
import Derived.Test.YtecaahegomdbbaaGreatDoorRows
import Derived.Test.YtecaahegomdbbaaGreatDoorRmB0a
set_option linter.all false
set_option maxRecDepth 99999
set_option maxHeartbeats 0
namespace Go.Proofs.YtecaahegomdbbaaGreatDoor.gr
open Go.Proofs.Tryz
open Go.RowKit
section
open Go.ChangeShapes Go.WideShapes Go.ChangeAt Go.RowKit
def abx:ownKnob prog.godebug=none:=by kernel_rfl
def abz:laidOutB prog=true:=by kernel_rfl
section
variable {H:Type} {enc:i9×i6->H}
theorem xG {P:Program} (u:laidOutB P=true) {W m:i5} (n:Below W.heap.size W m):∀{ts:ip i9} {vs:ip i6} {ds:ip (DataW H)} {ps:ip MemPlace},(ts.all λt=>P.readableRec t&&decide (t<P.types.size))=true->
  DataW.TrodAll enc P W 0 (λ_=>true) true ts vs ds ps->(∀x∈ps,x.block<W.heap.size)->∀sp:Nat->Bool,(∀p∈ps,sp p.block=true)->DataW.TrodAll enc P m 0 sp true ts vs ds ps
 |[],[],[],_,_,h,_,_,_=>h
 |[],_::_,_,_,_,h,_,_,_=>h.elim
 |[],[],_::_,_,_,h,_,_,_=>h.elim
 |_::_,[],_,_,_,h,_,_,_=>h.elim
 |_::_,_::_,[],_,_,h,_,_,_=>h.elim
 | t::ts,v::vs,d::ds,ps,g,h,fY,sp,w=>by
  obtain⟨p,q,h1,y,rfl⟩:=h;simp only[ra,iU,decide_eq_true_eq]at g
  exact⟨p,q,WideElems.Trod_stays u g.1.1 g.1.2 h1 (λx f=>n.same (fY x (by simp[f]))) (λx f=>w x (by simp[f])),
   xG u n g.2 y (λx f=>fY x (by simp[f])) sp (λx f=>w x (by simp[f])),rfl⟩
def HM {f:Func} {s:ChangeSpec} {apart fresh handsOn again:Bool} {W m:i5} {args:Array i6} {ds gs:ip (DataW H)} {before:ip MemPlace}
  (G:s.vars=[]) (w:s.fn H (ds++gs)={results:=[.lit (.bool true)],args:=ds}) (D:f.resultTypes= #[4]) (O:(f.params.toList.all λt=>prog.readableRec t&&decide (t<prog.types.size))=true)
  (u:DataW.Whole enc prog f.params.toList s.vars apart W args.toList ds gs before) (J:Ext W m):s.post enc prog f apart fresh handsOn again W args (.bool true) m:=by
 have v:=J.below;have fY:∀p∈before,p.block<W.heap.size:=λp d=>u.lt p d
 have hold:∀p∈before,(λb=>decide (b<W.heap.size)) p.block=true:=λp d=>by simpa using fY p d
 have K:=u;obtain⟨U,T,I,n,C,S,M⟩:=u;rw[G]at n
 have R:gs=[]/\T=[]:=by
  cases gs with
  |nil=>exact⟨rfl,n⟩
  |cons g gs=>exact n.elim
 obtain⟨rfl,rfl⟩:=R;rw[mR]at C;subst C
 have x:∀sp:Nat->Bool,(∀p∈before,sp p.block=true)->DataW.TrodAll enc prog m 0 sp true f.params.toList args.toList (s.fn H (ds++[])).args before:=λsp Q=>by
  rw[w];exact xG abz v O I fY sp Q
 have E:∀(b:Nat) (sp:Nat->Bool) (y:Bool),DataW.TrodAll enc prog m b sp y f.resultTypes.toList ((Value.bool true).resultList f.resultTypes.size) (s.fn H (ds++[])).results []:=λb sp y=>by
  rw[w,D];exact trodAll_mk1 (shut_bool underlying4 _)
 have F:∀sp:Nat->Bool,DataW.TrodVars enc prog m sp s.vars (s.fn H (ds++[])).vars []:=λsp=>by
  rw[w,G];rfl
 have N:∀(j:Nat) (t:i9) (r:i6),f.resultTypes[j]? =some t->((Value.bool true).resultList f.resultTypes.size)[j]? =some r->Value.okWide prog m .any 0 t r:=ok_one D rfl (okWide_bool_mk underlying4 _);refine⟨ds,[],before,[],before,[],K,E _ _ _,x _ hold,F _,World.keptBut_mono (λp d=>⟨d,.inr (.inl d)⟩) (v.frame (· ∈before)),λ_=>?_⟩;refine⟨N,_,_,([]++before)++[],⟨[]++before,[],trodAll_append (x _ (λ_ _=>rfl)) (E _ _ _),F _,rfl,?_,?_⟩,?_⟩
 .intro b off d;have B:MemPlace.cell b off∈before:=by simpa using d
  rw[v.frozen (fY _ B)];exact S b off B
 .intro L;have:=M L;simpa using this
 .intro p d _;simpa using d
def Fg {P:Program} {W:i5} {t e:i9} {k:kw} {v:i6} {d:DataW H} {p:ip MemPlace} (ht:P.underlying t=some (.slice e)) (he:P.underlying e=some (.int k)) (hc:P.cellsOf e=1) {base:Nat} (I:Value.okWide P W .any base t v)
  (h:DataW.Trod enc P W 0 (λ_=>true) true t v d p):∃zs:ip Int,Row W v zs.length (zs.map (Value.int k))/\∀z∈zs,(Lit.int k z).wf=true:=by
 obtain⟨a0,len,cap,rfl⟩:=okWide_slice ht I;obtain⟨fuel,C⟩:=h;rcases open_ints ht he hc C with⟨g,K⟩|⟨a,M,L,zs,g,_,E,hm,m,K,y,J⟩
 .simp only[Value.cells,rv,and_true]at g;injection g with n w x
  subst n;subst w;subst x;exact⟨[],⟨none,0,rfl,gJ _,by unfold maxLen;omega,λh=>absurd h iB⟩,λz m=>by cases m⟩
 .simp only[Value.cells,rv,and_true]at g;injection g with n w x
  subst n;subst w;subst x;simp only[if_true]at m;have hlen:(zs.take len).length=len:=by rw[kv];omega
  refine⟨zs.take len,⟨some a,cap,by rw[hlen],by rw[hlen];exact E,hm,λF=>?_⟩,λz m=>J z (DC m)⟩;rw[hlen]at F;obtain⟨b,off,spot⟩:=a;have G:spot=none:=by simpa[Addr.add]using World.cell?_spot (y 0 fy)
  subst G;have B:∀j,j<zs.length->W.cell? ⟨b,off+j,none⟩=some (.int k (zs.getD j 0)):=λj f=>by rw[<-Go.WideShapes.add_plain];exact y j f
  refine⟨b,off,rfl,Py W _ (B 0 fy),λj u hu=>?_⟩;rw[qX]at hu;cases f:(zs.take len)[j]? with
  |none=>rw[f]at hu;cases hu
  | some z=>
   rw[f]at hu;injection hu with hu
   subst hu
   have D:j<len:=by
    have:=(jR.1 f).1;omega
   rw[GH D]at f;rw[B j fy,kW,f];rfl
end
section
variable {H:Type} {enc:i9×i6->H} {P:Program} {W:i5}
def aae (s:ByteArray):∃l:fL,s=su l:=⟨s.data.toList,by cases s;simp[su]⟩
end
section
variable {H:Type} {enc:i9×i6->H} {W:i5}
variable {v:i6} {d:DataW H} {p:ip MemPlace} {base:Nat}
def Yj (f:Value.okWide prog W .any base 9 v) (g:DataW.Trod enc prog W 0 (λ_=>true) true 9 v d p):∃s:fL,v= .U s:=by
 obtain⟨s,rfl⟩:=okWide_string underlying9 f;obtain⟨l,rfl⟩:=aae s;exact⟨l,rfl⟩
