/- The law PutAgain returns true for every input, and the input reads as it did; what the row lists of Go's library is tied to the program's text. No conditions. -/
import Derived.Stop.LaidErr
import Derived.Test.YtecaahegomdbbaaGreatDoorRmBs
import Derived.Test.YtecaahegomdbbaaGreatDoorRmYe
import Derived.Test.YtecaahegomdbbaaGreatDoorRmKag
set_option linter.all false
namespace Go.Proofs.YtecaahegomdbbaaGreatDoor
open Go.Proofs.Tryz
open Go.ChangeShapes Go.WideShapes Go.ChangeAt Go.RowKit gr
set_option maxRecDepth 100000 in
theorem ye (os:Os) (started:os.Started) (H:Type) (enc:TypeId×Value->H):
    ReturnsInHanded {} checked os 5 .any (λw args=>(Rows.putAgainSpec.pre enc prog Tryz.f5 Rows.putAgainRow.domain false w args/\laidMetH prog Rows.putAgainRow.laid w)/\sizedMet enc prog Tryz.f5 (OpenSpec.ofChange Rows.putAgainSpec) false w args)
      (Rows.putAgainSpec.post enc prog Tryz.f5 false true false false):=by
  refine returnsInHanded_of_change_and (C:=checked) (X:=λw _=>laidMetH prog Rows.putAgainRow.laid w) (λ_ _ _ I h=>h.of_heap I) abx started fE func5
    (ChangeSpec.witness_shaped (enc:=enc) (C:=checked) (os:=os) (X:=λw _=>laidMetH prog Rows.putAgainRow.laid w) false (World.laidAll prog os Rows.putAgainRow.laid) #[.slice none 0 0,.int .i64 0,.slice none 0 0] 8 (World.laidAll_os _ _ _)
      (World.shaped_of_ZipB fE fE) fE fE fE
      (by rw[MakeChecks.laidMetH_plain _ _ _ fE];exact laidMet_laidAll _ fE fE)) ?_
  intro W base args ds gs before u n _ _ B _;have d:∀(j:Nat) t v,Tryz.f5.params[j]? =some t->args[j]? =some v->Value.okWide prog W .any base t v:=u;have G:=n;obtain⟨p,q,m,F,rfl,M,N⟩:=n;have f:DataW.TrodAll enc prog W 0 (λ_=>true) true Tryz.f5.params.toList args.toList ds p:=m;rw[params5]at f d;obtain⟨v0,v1,v2,d0,d1,d2,p0,p1,p2,rfl,rfl,rfl,h0,h1,x⟩:=trodAll_three f;obtain⟨rfl,rfl⟩:=trodVars_none F;obtain⟨z0,r0,O⟩:=Fg underlying22 underlying3 fE (d 0 22 v0 rfl rfl) h0;obtain⟨K,rfl,rfl,rfl,Q⟩:=open_int underlying3 (d 1 3 v1 rfl rfl) h1;obtain⟨z2,r2,R⟩:=Fg underlying22 underlying3 fE (d 2 22 v2 rfl rfl) x
  have E:EN W:=by
    have D:laidMet prog Rows.putAgainRow.laid W:=by
      have h:=B;rw[MakeChecks.laidMetH_plain _ _ _ fE]at h;exact h
    exact Lib.tabIs_of_head (g:=(prog.globalNamed "internal/strconv.uint64pow10").getD 0) fE fE underlying485 underlying126 fE fE D.tail.tail
  clear m u;refine pS (BG LS QR W v0 z0 r0 K v2 z2 r2 E) λe L ⟨v,he,J,y⟩=>?_
  subst J;exact⟨_,he,HM fx fx fE fE G y⟩
set_option maxRecDepth 100000 in
theorem Ek:Rows.PutAgainSaid:=
  OpenClaim.holds_of_wide 5 Tryz.f5 rfl rfl rfl rfl rfl rfl rfl ⟨rfl,rfl,rfl,rfl,rfl⟩ rfl rfl rfl rfl rfl fE func5 Av
    (of_decide_eq_true fE) (by unfold Func.isWrapper;first|(rw[if_pos (by decide+kernel)];kernel_rfl)|(rw[if_neg (by decide+kernel)];exact⟨rfl,rfl⟩))
    (λos started H enc _=>ye os started H enc)
set_option maxRecDepth 100000 in
theorem putAgain_holds:Rows.PutAgainCardSaid:=
  Claim7.holds_tied_plain_at .later [] [.data,.data,.data,.data,.sentinel,.sentinel,.pinned] true (true, "e52e13cf40da334dce1fddebb9ee70c602f3950b7b8ee0d6414b9599e03695cc") true Ek (λ_ h=>by cases h) H2 (λ_ h=>by cases h) putAgain_row_tie rfl ⟨rfl,rfl⟩ fE rfl
    (λf fn g m=>by
      obtain rfl:f=5:=jb ((show prog.funcNamed "steamer/steamerlaw25.PutAgain" =some 5 by kernel_rfl).symm.trans g)|>.symm
      obtain rfl:fn=Tryz.f5:=(jb (func5.symm.trans m)).symm
      exact⟨BD,λj t ht=>by
        rw[params5]at ht;have hm:=H5 ht;have d:=Bf;rw[params5]at d
        exact(show prog.wantsStandIn t=false by simpa using ld.1 d t (by simpa using hm))⟩)
    BY
#print axioms putAgain_holds
end Go.Proofs.YtecaahegomdbbaaGreatDoor
