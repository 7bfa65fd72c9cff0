/- Parts of the proof. -/
import Derived.Below
import Derived.ChangeSame
import Derived.ChangeSlices
import Derived.Test.YtecaahegomdbbaaGreatDoorRows
import Derived.Test.YtecaahegomdbbaaGreatDoorRfB0a
set_option linter.all false
set_option maxRecDepth 100000
set_option maxHeartbeats 64000000
namespace Go.Proofs.YtecaahegomdbbaaGreatDoor.gp
open Go.Proofs.Tryz
open Go.RowKit
section
open Go.ChangeShapes Go.WideShapes Go.ChangeAt Go.RowKit
theorem Z1:ownKnob prog.godebug=none:=by kernel_rfl
theorem aay:laidOutB prog=true:=by kernel_rfl
section
variable {H:Type} {enc:TypeId×Value->H}
theorem w7 {P:Program} (n:laidOutB P=true) {W g:World} (m:Below W.heap.size W g):∀{ts:List TypeId} {vs:List Value} {ds:List (DataW H)} {ps:List MemPlace},(ts.all λt=>P.readableRec t&&decide (t<P.types.size))=true->
  DataW.TrodAll enc P W 0 (λ_=>true) true ts vs ds ps->(∀x∈ps,x.block<W.heap.size)->∀sp:Nat->Bool,(∀p∈ps,sp p.block=true)->DataW.TrodAll enc P g 0 sp true ts vs ds ps
 |[],[],[],_,_,h,_,_,_=>h
 |[],_::_,_,_,_,h,_,_,_=>h.elim
 |[],[],_::_,_,_,h,_,_,_=>h.elim
 |_::_,[],_,_,_,h,_,_,_=>h.elim
 |_::_,_::_,[],_,_,h,_,_,_=>h.elim
 | t::ts,v::vs,d::ds,ps,f,h,fW,sp,s=>by
  obtain⟨p,q,h1,u,rfl⟩:=h;simp only[rJ,iO,decide_eq_true_eq]at f
  exact⟨p,q,WideElems.Trod_stays n f.1.1 f.1.2 h1 (λx a=>m.same (fW x (by simp[a]))) (λx a=>s x (by simp[a])),
   w7 n m f.2 u (λx a=>fW x (by simp[a])) sp (λx a=>s x (by simp[a])),rfl⟩
theorem Gr {f:Func} {s:ChangeSpec} {apart fresh handsOn again:Bool} {W d:World} {args:Array Value} {ds gs:List (DataW H)} {before:List MemPlace}
  (F:s.vars=[]) (v:s.fn H (ds++gs)={results:=[.lit (.bool true)],args:=ds}) (C:f.resultTypes= #[4]) (N:(f.params.toList.all λt=>prog.readableRec t&&decide (t<prog.types.size))=true)
  (n:DataW.Whole enc prog f.params.toList s.vars apart W args.toList ds gs before) (I:Ext W d):s.post enc prog f apart fresh handsOn again W args (.bool true) d:=by
 have u:=I.below;have fW:∀p∈before,p.block<W.heap.size:=λp a=>n.lt p a
 have hold:∀p∈before,(λb=>decide (b<W.heap.size)) p.block=true:=λp a=>by simpa using fW p a
 have J:=n;obtain⟨T,S,G,m,B,R,L⟩:=n;rw[F]at m
 have Q:gs=[]/\S=[]:=by
  cases gs with
  |nil=>exact⟨rfl,m⟩
  |cons g gs=>exact m.elim
 obtain⟨rfl,rfl⟩:=Q;rw[nk]at B;subst B
 have w:∀sp:Nat->Bool,(∀p∈before,sp p.block=true)->DataW.TrodAll enc prog d 0 sp true f.params.toList args.toList (s.fn H (ds++[])).args before:=λsp O=>by
  rw[v];exact w7 aay u N G fW sp O
 have D:∀(b:Nat) (sp:Nat->Bool) (x:Bool),DataW.TrodAll enc prog d b sp x f.resultTypes.toList ((Value.bool true).resultList f.resultTypes.size) (s.fn H (ds++[])).results []:=λb sp x=>by
  rw[v,C];exact trodAll_mk1 (shut_bool underlying4 _)
 have E:∀sp:Nat->Bool,DataW.TrodVars enc prog d sp s.vars (s.fn H (ds++[])).vars []:=λsp=>by
  rw[v,F];rfl
 have M:∀(j:Nat) (t:TypeId) (r:Value),f.resultTypes[j]? =some t->((Value.bool true).resultList f.resultTypes.size)[j]? =some r->Value.okWide prog d .any 0 t r:=ok_one C rfl (okWide_bool_mk underlying4 _);refine⟨ds,[],before,[],before,[],J,D _ _ _,w _ hold,E _,World.keptBut_mono (λp a=>⟨a,.inr (.inl a)⟩) (u.frame (· ∈before)),λ_=>?_⟩;refine⟨M,_,_,([]++before)++[],⟨[]++before,[],trodAll_append (w _ (λ_ _=>rfl)) (D _ _ _),E _,rfl,?_,?_⟩,?_⟩
 ·intro b off a;have y:MemPlace.cell b off∈before:=by simpa using a
  rw[u.frozen (fW _ y)];exact R b off y
 ·intro K;have:=L K;simpa using this
 ·intro p a _;simpa using a
theorem KE {P:Program} {W:World} {t e:TypeId} {k:IntKind} {v:Value} {d:DataW H} {p:List MemPlace} (ht:P.underlying t=some (.slice e)) (he:P.underlying e=some (.int k)) (hc:P.cellsOf e=1) {base:Nat} (G:Value.okWide P W .any base t v)
  (h:DataW.Trod enc P W 0 (λ_=>true) true t v d p):∃zs:List Int,Row W v zs.length (zs.map (Value.int k))/\∀z∈zs,(Lit.int k z).wf=true:=by
 obtain⟨a0,len,cap,rfl⟩:=okWide_slice ht G;obtain⟨fuel,B⟩:=h;rcases open_ints ht he hc B with⟨g,J⟩|⟨a,L,K,zs,g,_,D,hm,m,J,x,I⟩
 ·simp only[Value.cells,zE,and_true]at g;injection g with n s w
  subst n;subst s;subst w;exact⟨[],⟨none,0,rfl,gJ _,by unfold maxLen;omega,λh=>absurd h ir⟩,λz m=>by cases m⟩
 ·simp only[Value.cells,zE,and_true]at g;injection g with n s w
  subst n;subst s;subst w;simp only[if_true]at m;have hlen:(zs.take len).length=len:=by rw[kt];omega
  refine⟨zs.take len,⟨some a,cap,by rw[hlen],by rw[hlen];exact D,hm,λE=>?_⟩,λz m=>I z (BU m)⟩;rw[hlen]at E;obtain⟨b,off,spot⟩:=a;have F:spot=none:=by simpa[Addr.add]using World.cell?_spot (x 0 fy)
  subst F;have y:∀j,j<zs.length->W.cell? ⟨b,off+j,none⟩=some (.int k (zs.getD j 0)):=λj f=>by rw[←Go.WideShapes.add_plain];exact x j f
  refine⟨b,off,rfl,Pb W _ (y 0 fy),λj u hu=>?_⟩;rw[qX]at hu;cases f:(zs.take len)[j]? with
  |none=>rw[f]at hu;cases hu
  | some z=>
   rw[f]at hu;injection hu with hu
   subst hu
   have C:j<len:=by
    have:=(j0.1 f).1;omega
   rw[FN C]at f;rw[y j fy,kv,f];rfl
end
end
end Go.Proofs.YtecaahegomdbbaaGreatDoor.gp
