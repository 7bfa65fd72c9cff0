/- The law PutOthers returns true for every input, and the input reads as it did; what the row lists of Go's library is tied to the program's text. No conditions. -/
import Derived.Stop.LaidErr
import Derived.Test.YtecaahegomdbbaaGreatDoorRmBr
import Derived.Test.YtecaahegomdbbaaGreatDoorRmYe
import Derived.Test.YtecaahegomdbbaaGreatDoorRmKot
set_option linter.all false
namespace Go.Proofs.YtecaahegomdbbaaGreatDoor
open Go.Proofs.Tryz
open Go.ChangeShapes Go.WideShapes Go.ChangeAt Go.RowKit gr
set_option maxRecDepth 100000 in
theorem wC (os:Os) (started:os.Started) (H:Type) (enc:TypeId×Value->H):
    ReturnsInHanded {} checked os 6 .any (λw args=>(Rows.putOthersSpec.pre enc prog Tryz.f6 Rows.putOthersRow.domain false w args/\laidMetH prog Rows.putOthersRow.laid w)/\sizedMet enc prog Tryz.f6 (OpenSpec.ofChange Rows.putOthersSpec) false w args)
      (Rows.putOthersSpec.post enc prog Tryz.f6 false true false false):=by
  refine returnsInHanded_of_change_and (C:=checked) (X:=λw _=>laidMetH prog Rows.putOthersRow.laid w) (λ_ _ _ G h=>h.of_heap G) abx started fE func6
    (ChangeSpec.witness_shaped (enc:=enc) (C:=checked) (os:=os) (X:=λw _=>laidMetH prog Rows.putOthersRow.laid w) false (World.laidAll prog os Rows.putOthersRow.laid) #[.slice none 0 0,.string ⟨#[]⟩] 8 (World.laidAll_os _ _ _)
      (World.shaped_of_ZipB fE fE) fE fE fE
      (by rw[MakeChecks.laidMetH_plain _ _ _ fE];exact laidMet_laidAll _ fE fE)) ?_
  intro W base args ds gs before u n _ _ y _;have d:∀(j:Nat) t v,Tryz.f6.params[j]? =some t->args[j]? =some v->Value.okWide prog W .any base t v:=u;have F:=n;obtain⟨p,q,m,E,rfl,L,M⟩:=n;have f:DataW.TrodAll enc prog W 0 (λ_=>true) true Tryz.f6.params.toList args.toList ds p:=m;rw[params6]at f d;obtain⟨v0,v1,d0,d1,p0,p1,rfl,rfl,rfl,h0,h1⟩:=trodAll_two f;obtain⟨rfl,rfl⟩:=trodVars_none E;obtain⟨z0,r0,N⟩:=Fg underlying22 underlying3 fE (d 0 22 v0 rfl rfl) h0;obtain⟨J,rfl⟩:=Yj (d 1 9 v1 rfl rfl) h1
  have D:EN W:=by
    have B:laidMet prog Rows.putOthersRow.laid W:=by
      have h:=y;rw[MakeChecks.laidMetH_plain _ _ _ fE]at h;exact h
    exact Lib.tabIs_of_head (g:=(prog.globalNamed "internal/strconv.uint64pow10").getD 0) fE fE underlying485 underlying126 fE fE B.tail.tail
  clear m u;refine pS (AT LS QR W v0 z0 r0 J D) λe K ⟨v,he,I,x⟩=>?_
  subst I;exact⟨_,he,HM fx fx fE fE F x⟩
set_option maxRecDepth 100000 in
theorem BE:Rows.PutOthersSaid:=
  OpenClaim.holds_of_wide 6 Tryz.f6 rfl rfl rfl rfl rfl rfl rfl ⟨rfl,rfl,rfl,rfl,rfl⟩ rfl rfl rfl rfl rfl fE func6 yi
    (of_decide_eq_true fE) (by unfold Func.isWrapper;first|(rw[if_pos (by decide+kernel)];kernel_rfl)|(rw[if_neg (by decide+kernel)];exact⟨rfl,rfl⟩))
    (λos started H enc _=>wC os started H enc)
set_option maxRecDepth 100000 in
theorem putOthers_holds:Rows.PutOthersCardSaid:=
  Claim7.holds_tied_plain_at .later [] [.data,.data,.data,.data,.sentinel,.sentinel,.pinned] true (true, "e52e13cf40da334dce1fddebb9ee70c602f3950b7b8ee0d6414b9599e03695cc") true BE (λ_ h=>by cases h) ET (λ_ h=>by cases h) putOthers_row_tie rfl ⟨rfl,rfl⟩ fE rfl
    (λf fn g m=>by
      obtain rfl:f=6:=jb ((show prog.funcNamed "steamer/steamerlaw25.PutOthers" =some 6 by kernel_rfl).symm.trans g)|>.symm
      obtain rfl:fn=Tryz.f6:=(jb (func6.symm.trans m)).symm
      exact⟨AE,λj t ht=>by
        rw[params6]at ht;have hm:=H5 ht;have d:=xZ;rw[params6]at d
        exact(show prog.wantsStandIn t=false by simpa using ld.1 d t (by simpa using hm))⟩)
    Bb
#print axioms putOthers_holds
end Go.Proofs.YtecaahegomdbbaaGreatDoor
