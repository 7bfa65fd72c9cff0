/- Parts of the proof. -/
import Derived.Carry
import Derived.Deep.AppendLies
import Derived.Deep.Draws
import Derived.Deep.LoopGhost
import Derived.Great.BuildSlice
import Derived.Great.FillDense
import Derived.IntWalk
import Derived.KernelRfl
import Derived.Laws.BytesArg
import Derived.Laws.Cover1
import Derived.Laws.Externs
import Derived.Laws.MakeOwn
import Derived.Laws.OwnMore
import Derived.Laws.Strings2
import Derived.Laws.Tables
import Derived.Lib.SliceRun
import Derived.MapKept
import Derived.Maps.AppendAt
import Derived.ProofKit
import Derived.Test.YtecaahegomdbbaaGreatDoorProg
import Derived.WalkKit
import Derived.WalkLawsBesides
import Derived.WalkSpells
import GoSem.Core.Float
set_option linter.all false
set_option maxRecDepth 99999
set_option maxHeartbeats 0
namespace Go.Proofs.YtecaahegomdbbaaGreatDoor
open Go.Proofs.Tryz
abbrev ip:=List
abbrev i5:=World
abbrev i6:=Value
abbrev i7:=Operand
abbrev i9:=TypeId
abbrev kw:=IntKind
abbrev li:=Oper
abbrev gc (w:i5) (b o:Nat) (v:i6):Prop:=w.cell? ⟨b,o,none⟩=some v
abbrev _root_.Go.Value.P (g:Nat):i6:=.pointer (some ⟨g,0,none⟩)
abbrev _root_.Go.Value.S (b o:Nat):Nat->Nat->i6:=.slice (some ⟨b,o,none⟩)
abbrev _root_.Go.Value.I:Int->i6:=.int .i64
variable {p:Prop}
theorem fy (h:p:=by omega):p:=h
theorem fU (h:p:=by decide):p:=h
theorem fE (h:p:=by kernel_rfl):p:=h
theorem iB (h:p:=by simp):p:=h
theorem fM (h:p:=by grind):p:=h
theorem lX (h:p:=by simp_all):p:=h
theorem fx.{u} {α:Sort u} {a:α}:a=a:=rfl
set_option linter.defProp false
def ib:= @List.length_append
def j9:= @List.getElem?_eq_getElem
def iU:= @Bool.and_eq_true
def jT:= @List.mem_of_getElem?
def jS:= @List.mem_singleton
def jb:= @Option.some.inj
def iV:= @Bool.true_and
def iF:= @Nat.zero_le
def kv:= @List.length_take
def ld:= @List.all_eq_true
def gJ:= @Nat.le_refl
def jg:= @Nat.le_of_ble_eq_true
def jR:= @List.getElem?_eq_some_iff
def hW:= @Bool.false_and
def jq:= @Nat.eq_of_beq_eq_true
def kW:= @List.getD_eq_getElem?_getD
def iP:= @List.length_cons
def je:= @Int.toNat_natCast
def iu:= @List.mem_cons
def jA:= @List.pairwise_cons
def iS:= @List.mem_append
def ke:= @List.pairwise_append
def jP:= @List.drop_length
def j0:= @List.mem_cons_self
def lZ:= @Int.eq_ofNat_of_zero_le
def jv:= @List.length_map
def j2:= @List.take_add_one
def iM:= @Nat.zero_add
def jj:= @List.map_cons
def kh:= @List.take_length
def kF:= @List.append_assoc
def mJ:= @List.take_append_drop
def pq:= @Array.getD_eq_getD_getElem?
def kL:= @List.length_nil
def lY:= @List.length_drop
def rk:= @List.getElem?_append_left
def po:= @List.getElem?_toArray
def p8:= @List.take_of_length_le
def kB:= @Nat.add_zero
def nK:= @List.size_toArray
def tk:= @List.getElem?_append_right
def rB:= @Option.isSome_iff_exists
def mR:= @List.append_nil
def py:= @Array.length_toList
def lp:= @List.mem_map
def ly:= @Nat.le_trans
def qC:= @List.mem_cons_of_mem
def qz:= @Nat.mul_le_mul_right
def nS:= @List.length_set
def wW:= @Array.getElem?_eq_getElem
def rP:= @List.length_pos_iff
def tq:= @List.getElem?_of_mem
def tP:= @Array.getElem?_modify
def pw:= @List.map_append
def nE:= @Addr.add_lit
def qX:= @List.getElem?_map
def x3:= @List.mem_or_eq_of_mem_set
def BZ:= @List.eq_nil_of_length_eq_zero
def rf:= @List.cons_append
def ue:= @List.flatMap_append
def tp:= @Result.andThen_ok
def tu:= @List.flatMap_cons
def wB:= @List.mem_append_left
def tf:= @List.not_mem_nil
def oR:= @Nat.mul_one
def zT:= @List.length_eq_zero_iff
def x0:= @List.getElem?_eq_none
def ra:= @List.all_cons
def zi:= @List.drop_eq_nil_of_le
def wG:= @UInt8.toNat_ofNat'
def wD:= @Option.toList_some
def AZ:= @List.length_singleton
def x5:= @List.map_congr_left
def uf:= @Bool.or_eq_true
def tT:= @Option.map_some
def Fq:= @List.drop_eq_getElem_cons
def uJ:= @Nat.mod_eq_of_lt
def tl:= @Bool.and_false
def yc:= @Nat.eq_zero_or_pos
def rN:= @List.map_map
def Hc:= @List.pairwise_iff_getElem
def FB:= @Array.getElem?_eq_none
def AN:= @Option.isSome_some
def OS:= @Array.all_eq_true_iff_forall_mem
def tg:= @Sem.run_bind
def GH:= @List.getElem?_take_of_lt
def BV:= @List.getElem_of_mem
def zH:= @List.pairwise_map
def KE:= @Array.getElem?_eq_some_iff
def wK:= @List.drop_zero
def BX:= @Nat.lt_of_lt_of_le
def BW:= @Option.isSome_none
def Bl:= @Option.getD_some
def I8:= @Classical.byContradiction
def M9:= @List.take_append_of_le_length
def BK:= @List.ext_getElem?
def x2:= @List.mem_range
def vz:= @List.map_set
def Hr:= @Array.getElem?_toList
def yb:= @List.take_zero
def rv:= @List.cons.injEq
def oA:= @Nat.add_mul
def xE:= @List.range_eq_range'
def xC:= @List.count_le_length
def tx:= @Option.getD_none
def p9:= @Nat.lt_or_ge
def rU:= @List.drop_drop
def xc:= @List.mem_map_of_mem
def tz:= @List.nil_append
def tD:= @Nat.min_eq_left
def tG:= @List.range_succ
def ze:= @List.mem_append_right
def Bg:= @List.length_replicate
def uT:= @List.getElem_mem
def Au:= @Region.noSelect_spec
def A8:= @Nat.pow_le_pow_right
def tE:= @List.Perm.refl
def Dr:= @List.getElem?_cons_succ
def wa:= @List.foldl_cons
def sc:= @Nat.succ_mul
def CZ:= @List.length_eq_one_iff
def DD:= @List.flatMap_singleton
def pS:= @Calls.mono
def xM:= @List.ext_getElem
def xk:= @List.mem_flatMap
def Bu:= @List.getElem?_drop
def vr:= @List.take_left
def zZ:= @Nat.and_one_is_mod
def Dq:= @List.eq_nil_or_concat
def D3:= @List.concat_eq_append
def tN:= @Nat.zero_mul
def Dv:= @List.dropLast_concat
def xJ:= @Bool.eq_iff_iff
def DC:= @List.mem_of_mem_take
def zw:= @Nat.lt_trichotomy
def Ab:= @Decidable.not_not
def SH:= @Array.getElem?_setIfInBounds_self_of_lt
def Ia:= @Nat.add_sub_cancel_left
def MH:= @List.dropLast_concat_getLast
def zb:= @Nat.lt_succ_self
def rE:= @Nat.mod_lt
def K3:= @Nat.mul_lt_mul_of_pos_right
def H5:= @Array.mem_of_getElem?
def Ag:= @Nat.two_pow_pos
def MM:= @Array.toList_setIfInBounds
def LO:= @List.setIfInBounds_toArray
def C8:= @List.mem_range'_1
def CU:= @Option.some.injEq
def DV:= @Nat.compare_eq_lt
def CF:= @Nat.compare_eq_gt
def CA:= @List.length_range
def Cf:= @Nat.compare_eq_eq
def L7:= @Nat.shiftRight_eq_div_pow
def GQ:= @MapKept.run_checkKey
def Cy:= @Option.bind_some
def Da:= @Nat.shiftLeft_eq
def Dx:= @List.nodup_range
def QA:= @List.eraseIdx_eq_take_drop_succ
def My:= @List.getElem?_cons_zero
def Hb:= @Bool.false_eq_true
def DW:= @List.mem_filter
def Ic:= @List.getElem?_take
def vI:= @Nat.not_le
def LH:= @List.getElem?_set_self
def P2:= @List.drop_append_of_le_length
def IN:= @Array.size_append
def ID:= @List.foldl_append
def CY:= @IntWalk.i64_in
def Lw:= @List.count_cons_of_ne
def Lz:= @List.set_append_right
def LJ:= @List.length_filter_le
def G9:= @List.zipIdx_cons
def Hv:= @List.countP_cons
def HQ:= @Int.natCast_emod
def Ho:= @List.drop_append
def Li:= @List.count_singleton
def K0:= @List.length_eraseIdx
def DP:= @Bool.not_true
def CQ:= @Bool.false_or
def Qs:= @List.isPrefixOf_iff_prefix
def CN:= @List.map_take
def La:= @List.Perm.length_eq
def LG:= @List.getElem?_range
def FM:= @List.take_left'
def Ry:= @Array.getElem?_replicate
def C7:= @Nat.beq_refl
def ME:= @List.map_replicate
def MN:= @List.filter_append
def R4:= @List.mem_of_mem_eraseIdx
def IP:= @List.take_take
def Py:= @World.block_lt_of_cell?
def SF:= @Nat.le_mul_of_pos_right
def Ms:= @Bool.not_eq_true'
def LK:= @List.getElem?_set
def QT:= @List.pairwise_lt_range
def VV:= @List.set_eq_take_append_cons_drop
def WK:= @List.findIdx?_eq_some_iff_getElem
def GC:= @Nat.add_assoc
def K7:= @List.range'_succ
def LV:= @Nat.div_eq_of_lt
def uG:= @Ne.symm
def HD:= @Nat.sub_self
def QO:= @List.drop_eq_nil_iff
def Gf:= @List.all_nil
def RC:= @List.drop_succ_cons
def Pm:= @List.filter_sublist
def VC:= @List.countP_eq_length_filter
def L8:= @Bool.and_assoc
def F4:= @Nat.pow_add
def Qo:= @Array.any_eq_true'
def QN:= @List.append_of_mem
def Rr:= @List.findIdx?_cons
def Qa:= @List.set_cons_zero
def Mv:= @Bool.and_self
def L1:= @Bool.and_true
def Sv:= @List.any_eq_false
def Q5:= @List.idxOf_append
def V4:= @List.rel_of_pairwise_cons
def G8:= @Array.ext'
def V0:= @List.findIdx?_eq_none_iff
def Mz:= @Nat.sub_zero
def Qv:= @List.perm_middle
def K2:= @Nat.le_of_eq
def VO:= @List.idxOf_lt_length_iff
def SG:= @List.any_eq_true
def VX:= @List.length_erase_of_mem
def RS:= @List.take_append
def MJ:= @Nat.pow_succ
def WS:= @Array.size_setIfInBounds
def MD:= @Bool.true_or
def VP:= @List.prefix_iff_eq_take
def QC:= @List.nodup_cons
def QQ:= @Nat.div_le_self
def PW:= @Option.map_none
def WV:= @List.append_eq_nil_iff
def VN:= @MapKept.run_getObj_map
def VU:= @MapKept.run_setObj_map
def K9:= @Nat.le_succ
def WZ:= @List.length_pos_of_mem
def Lq:= @Nat.mul_pos
def W5:= @List.Perm.append_right
def Wq:= @List.mem_of_mem_erase
def W8:= @UInt8.lt_iff_toNat_lt
def Xa:= @Nat.ble_eq_true_of_le
def QF:= @Nat.mul_le_mul
def Wm:= @List.Perm.append_left
def Wt:= @List.countP_le_length
def VS:= @List.countP_mono_left
def Wn:= @Array.getElem?_mapIdx
def WX:= @List.singleton_append
def V9:= @List.range'_append_1
def VG:= @List.count_cons_self
def WO:= @Array.getElem_toList
def WW:= @List.mem_of_mem_drop
def VJ:= @Array.mem_toList_iff
def P0:= @Prod.mk.injEq
def Ru:= @List.map_drop
def Q3:= @Nat.lt_irrefl
def WB:= @MapKept.run_findKey
def Xg:= @Function.comp_apply
def Xj:= @Int.toNat_of_nonneg
def Xd:= @List.replicate_succ
def Ww:= @Array.toList_append
def Xe:= @List.take_set_of_le
def Xl:= @List.filter_eq_self
def Xp:= @List.filterMap_cons
def WM:= @List.countP_pos_iff
def Qt:= @Nat.add_comm
def P7:= @Sem.run_pure
def WG:= @Array.ext_getElem?
def W4:= @List.mem_filterMap
def R7:= @Nat.ne_of_lt
def VF:= @Nat.xor_lt_two_pow
def Qy:= @Nat.le_of_lt
def WD:= @List.zip_cons_cons
def PR:= @List.map_nil
def Qc:= @Nat.mul_comm
def W0:= @List.set_cons_succ
def Wx:= @List.map_singleton
def VH:= @Nat.lt_of_le_of_lt
def W1:= @List.getElem_range
def Wp:= @Bool.true_eq_false
def V1:= @Nat.sub_add_cancel
def We:= @Nat.pos_of_ne_zero
def Wu:= @Bool.false_ne_true
def Ss:= @Int.le_refl
def y0 (h:p:=by(refine gR (t:=37) V fx fx ?_);(refine fA ?_);(refine gY al fx fx fE fx (fJ (l:=gB x) (ld.2 (L ap))) (λm F G=>?_));(have v:Ext w m:=W.trans G λj D e=>by have:j=C.heap.size:=e;omega);(refine fA ?_);(exact hL fx fx fx F fE ⟨x,rfl,rfl,I.ext v,(λh=>by simp at h),v⟩)):p:=h
def y1 (h:p:=by(obtain⟨ez,eB,aG,rfl,aE⟩:=ab);(have bI:=aE);(obtain⟨aR,c8,rfl,_,_,_⟩:=aE.e.op gi);(obtain⟨aU,d8,rfl,_,_,_⟩:=aE.n.op gw);(refine fA ?_);(refine gY (aN.ext S) fx fx fE fx (fJ (l:=[.slice aR (Nr (zs.map uN)).es.length c8,.slice aU aG.length d8]) fx) (λaI bu aC=>?_));(have bJ:=bI.Uc (aN.ext S) (EX _ _ _ _ _ _) aC);(have a3:fW aI w.heap.size 26 #[.slice none 0 0,.slice none 0 0]:=(cJ.ext S).fr aC (show ¬w.heap.size=g3 by omega));(refine fA ?_);(refine gR (t:=26) bu fx fx ?_);(refine gY a3 fx fx fE fx (fJ (l:=[.slice aR (Nr (zs.map uN)).es.length c8,.slice aU aG.length d8]) fx) (λaH br aX=>?_));(have bH:=bJ.Uc a3 (EX _ _ _ _ _ _) aX);(refine fA ?_);(exact CP fx fx br fE ⟨_,_,aG,rfl,bH,aM (aM (cz.t S) aC fy) aX (gJ _)⟩)):p:=h
def y2 (h:p:=by exact fB fx fx ⟨rfl,rfl⟩):p:=h
def y3 (h:p:=by(refine fA ?_);(refine gR (t:=37) aa fx fx ?_);(refine fA ?_);(refine gY aj fx fx fE fx (fJ (l:=gB x) (ld.2 (W al))) (λg N ad=>?_));(have m:Ext w g:=ab.trans ad λj O e=>by have:j=M.heap.size:=e;omega);(refine fA ?_);(exact hL fx fx fx N fE ⟨x,rfl,rfl,Q.ext m,(λh=>by simp at h),m⟩)):p:=h
def y4 (h:p:=by(rw[<-B]);(refine FG j5 fx fx fU fU (λu hu=>by rw[jS.1 hu];rfl) (λX F m V=>?_));(refine jH (news:=qM p) j5 fx fU fx (gK.ext f m) fx (gQ F fU fx) fx (λu hu=>by rw[jS.1 hu];rfl) (by unfold maxLen;omega) fy (by have:=g.size;have:=m.size;omega) (λd D H G W=>?_));(have I:Ow qM 1 D w.heap.size 9 d (acc++[p]):=Ow.ext1 (l':=[p]) (by simpa using H));(refine l4 ?_);(exact gl ⟨(i+1,i+1,d,acc++[p]),sub ⟨rfl,rfl,rfl,rfl⟩,L d D I (Ext.te (g.t m) G λj T e=>by have:=(f.gO e).1;omega),(by show l.length+1-(i+1)<l.length+1-i;omega)⟩)):p:=h
def y5 (h:p:=by(subst e);(have f:decide (l.drop (i+1)=l'.drop (i+1))=decide (l=l'):=by rw[<-f];simp);(rw[decide_eq_true rfl]);(refine fA ?_);(exact gl ⟨i+1,sub ⟨rfl,rfl,rfl⟩,⟨g.d,fy,f⟩,(by show l.length-(i+1)<l.length-i;omega)⟩)):p:=h
def y6 (h:p:=by(have aj:hQ t=none:=by have:=aD false S T ab (by rw[<-ah,aE,ra,aS];rfl);simpa using this);(refine OH ?_);(refine oQ (parts:=[]) (cells:= #[.slice none 0 0,.slice none 0 0]) fx fE ?_);(refine fA ?_);(refine gY L fx fx fE fx (fJ (l:=[.slice none 0 0,.slice none 0 0]) fx) (λH Z v=>?_));(refine fA ?_);(exact hL fx fx fx Z fE ⟨O G v fy,by first|(rw[aj];done)|(rw[aj];exact fx)⟩)):p:=h
def y7 (h:p:=by(rintro r J ⟨rfl,I,v⟩);(refine fA ?_);(exact fB fx fx (Lp.of ⟨rfl,_,_,_,v⟩ h C))):p:=h
def y8 (h:p:=by(obtain⟨rfl,rfl⟩:=h1);(refine fA ?_);(exact y2)):p:=h
def y9 (h:p:=by(obtain⟨t,f⟩:=iD hr h1);(rw[rL,xW]at f);(subst t;subst d);(exact .inl ⟨k,_,_,rfl,g.1,f⟩)):p:=h
def y10 (h:p:=by(refine fA ?_);(refine gR (t:=37) aw fx fx ?_);(refine fA ?_);(refine gY bX fx fx fE fx (fJ (l:=gB x) (ld.2 (L b9))) (λm F G=>?_));(have v:Ext w m:=aY.trans G λj D e=>by have:j=C.heap.size:=e;omega);(refine fA ?_);(exact hL fx fx fx F fE ⟨x,rfl,rfl,I.ext v,(λh=>by simp at h),v⟩)):p:=h
def SJ (h:p:=by(refine fA ?_);(exact fB fx fx ⟨rfl,m⟩)):p:=h
def y12 (h:p:=by(obtain⟨v,h,B⟩:=vE (ρ:=ρ) hr h);(exact jE h1 D (eqGuard_at_int ..) (λw'=>G k _ _ w') ⟨_,σ,ρ,_,h,Up.refl ρ,B,hM,rfl⟩)):p:=h
def y13 (h:p:=by(refine fA ?_);(refine oQ (parts:=[]) (cells:= #[.slice none 0 0,.slice none 0 0]) fx fE ?_);(refine fA ?_);(refine gY a0 fx fx fE fx (fJ (l:=[.slice none 0 0,.slice none 0 0]) fx) (λm af aA=>?_));(refine fA ?_);(exact hL fx fx fx af fE (bad aC m aA))):p:=h
def y14 (h:p:=by(obtain⟨d,rfl,hO,m⟩:=h1);(obtain⟨A,c,rfl,F,G⟩:=hO.form);(have fY:=g.lt);(refine fA ?_);(refine ir (g.ext m) fx fx fE fx fx (λI x u=>?_));(refine fA ?_);(exact fB fx fx ⟨_,rfl,x,hO.fr u λb' B e=>by have:=(hO.gO B).1;have:b'=b:=e;omega,m.fr.t u⟩)):p:=h
def Zj (h:p:=by(refine fA ?_);(exact fB fx fx ⟨by rw[<-d],f.t v⟩)):p:=h
def y16 (h:p:=by(refine gW fx (by grind [gd,Op.operands]) ?_);(have hc:ja fD fC hs ⟨some d,Op.convert s t x,R,pos,af,none⟩= .p:=by simp[ja,cls,fD,f,ht]);(rw[hc]);(exact⟨_,by simp_all [execOp,convert,Conv.intToInt,fR,run_underlying,iN],h⟩)):p:=h
def y17 (h:p:=by(refine go ?_);(exact gl (fin _ (sub ⟨rfl,GD (by rw[t1];omega),GD (by rw[t2];omega),GD (by rw[t3];omega),rfl⟩)))):p:=h
def y18 (h:p:=by(refine fA ?_);(refine gR (t:=26) aN fx fx ?_);(refine fH fx fx (AM L _ _ nv ⟨m.es,m.ns⟩ cM cO (by dsimp only;omega) (by dsimp only;omega)) (λr aP ab=>?_));(obtain⟨S,ab⟩:=ab);(rw[bO]at ab);(dsimp only at ab);(exact y1)):p:=h
def y19 (h:p:=by(rw[decide_eq_false (by simp[e])]at f);(rw[decide_eq_false e]);(refine fA ?_);(exact fB fx fx ⟨by rw[<-f],g.d⟩)):p:=h
def y20 (h:p:=by(obtain rfl:i=l.length:=fy);(rw[jP,hlen,jP]at f);(rw[<-f]);(refine fA ?_);(exact fB fx fx ⟨rfl,g⟩)):p:=h
def Zh (h:p:=by(refine fA ?_);(exact ia fx fx fx ⟨rfl,m⟩)):p:=h
def y22 (h:p:=by(refine fA ?_);(exact gl ⟨(),sub ⟨rfl,rfl⟩,rfl⟩)):p:=h
def y23 (h:p:=by(obtain⟨r,l,vs,rfl,k1,k2,k3,k4,k5,k6,k7,k8,k9⟩:=UT hr B g q);(exact⟨s,t,x,el,id,j,l,vs,r,p,_,rfl,D,iN C,by rw[h1,hu,k2,oR],g,k3,k4,k5,k6,k7,k8,k9⟩)):p:=h
def y24 (h:p:=by(refine fA ?_);(refine gC (α:=Unit) (λ_=>[(2,.I 0),(8,.I 1)]) (λ_ w'=>w=w') (λ_=>0) () (sub ⟨rfl,rfl⟩) fx ?_);(rintro _ w' rfl);(refine fA ?_);(exact mr fx (Fr.refl _ _))):p:=h
def y25 (h:p:=by exact hy fx ⟨_,fM,.inl ⟨rfl,⟨i+1,v1,gm⟩,sub ⟨rfl,rfl,rfl,rfl⟩,fM,rfl⟩⟩):p:=h
def y26 (h:p:=by(obtain⟨e',M,B,g1,g2,g3,g4,_⟩:=J);(exact next g2 g3 g4 g1)):p:=h
def y27 (h:p:=by(refine fA ?_);(exact fB fx fx ⟨by rw[decide_eq_false λe=>hlen (by rw[e])],Fr.refl _ _⟩)):p:=h
def y28 (h:p:=by(obtain⟨rfl,rfl⟩:=h1);(rw[show min (max (l:Int) 0) 1099511627776=(l:Int)from by omega]);(repeat' (first|refine X7 l fx fx ?_|refine ac8 fx fx ?_|refine fT ?_|fail));(exact y2)):p:=h
def y29 (h:p:=by(refine fA ?_);(refine fI fx fx (uo v B g m vf _ _ fO _ p L.o) ?_);(rintro r ap ⟨rfl,M,S⟩);(refine fA ?_);(refine WQ ?_);(exact mr fx ⟨rfl,_,M,L.t S⟩)):p:=h
def y30 (h:p:=by exact hy fx ⟨_,(by show t.es.length-(i+1)<t.es.length-i;omega),rfl,(i+1,v),sub ⟨rfl,rfl,rfl,rfl⟩,⟨by dsimp only;omega,E,HF _ _ _,y⟩,rfl⟩):p:=h
def UF (h:p:=by exact fB fx fx ⟨rfl,d⟩):p:=h
def y32 (h:p:=by(refine fA ?_);(exact fB fx fx (Lp.of ⟨rfl,_,_,_,iY.ext F (Fr.refl _ _)⟩ h C))):p:=h
def Z1 (h:p:=by(refine fA ?_);(exact fB fx fx ⟨by simp,m⟩)):p:=h
def y34 (h:p:=by exact fB fx fx ⟨by rw[<-f];simp only[hW],B.t O⟩):p:=h
def y35 (h:p:=by(obtain⟨al,k1,k2⟩:=pa hr g3);(obtain⟨y,k3,k4⟩:=mm hr k2);(exact go _ _ _ C (hM.xF id 0 p (by grind [kd]) K) k4)):p:=h
def y36 (h:p:=by(refine fA ?_);(exact fB fx fx ⟨by simp[jw],g⟩)):p:=h
def y37 (h:p:=by(refine fA ?_);(exact fB fx fx ⟨by rw[<-d],rfl⟩)):p:=h
def y38 (h:p:=by(refine fA ?_);(exact gl ⟨(i+1,_,_),sub ⟨rfl,rfl,rfl,km (by dsimp only;omega)⟩,bg,by show u.ns.length-(i+1)<u.ns.length-i;omega⟩)):p:=h
def y39 (h:p:=by(refine l4 ?_);(exact fB fx fx ⟨by rw[<-d],f⟩)):p:=h
def y40 (h:p:=by(refine fA ?_);(exact ia fx fx fx ⟨rfl,d.t g⟩)):p:=h
def y41 (h:p:=by(rw[e]);(refine fA ?_);(exact gl ⟨(),sub ⟨rfl,rfl,rfl,rfl⟩,rfl⟩)):p:=h
def y42 (h:p:=by(refine fA ?_);(exact fB fx fx ⟨by rw[<-f],m⟩)):p:=h
def y43 (h:p:=by(rw[rL]at g);(exact PB (r:=false) hM h1 v (by simp_all [eqGuard,qw]) fx fx (λw'=>K8 ht 9999 _ _ fx w') (by cases q<;>exact g))):p:=h
def y44 (h:p:=by(obtain⟨rfl,_⟩:=g);(obtain⟨y,g3,N⟩:=vE (ρ:=ρ) hr g2);(exact Wz h1 F hk ⟨_,σ,ρ,_,g3,Up.refl ρ,N,hM,rfl⟩)):p:=h
def y45 (h:p:=by exact⟨by grind [gd,Op.operands,DK],rfl,by simp_all [execOp,FU,eqGuard_at_pointer,fR,run_eql_pointer_nil,FN]⟩):p:=h
def y46 (h:p:=by exact⟨by grind [gd,Op.operands,DK],rfl,by simp_all [execOp,FU,eqGuard_at_pointer,fR,run_neq_pointer_nil,FN]⟩):p:=h
def y47 (h:p:=by(refine aak ?_);(exact gl ⟨j+1,sub ⟨rfl,rfl,rfl⟩,⟨V.t H,fy,C⟩,(by show t.ns.length-(j+1)<t.ns.length-j;omega)⟩)):p:=h
def y48 (h:p:=by exact gl ⟨⟨i+1,m,_,vf,ve,vn,nv⟩,sub ⟨rfl,rfl,rfl,rfl,rfl,rfl⟩,cont aH aW bR,(by show 25-(i+1)<25-i;omega)⟩):p:=h
def y49 (h:p:=by(refine fA ?_);(exact fB fx fx ⟨rfl,m.t C⟩)):p:=h
def y50 (h:p:=by(rename_i va B w m hc;injection h with h;subst h);(exact⟨by grind [gd,Op.operands],rfl,by simp_all [execOp,asBool,fR]⟩)):p:=h
def y51 (h:p:=by(simp[execOp,fR h1,fR u,Instr.index,asIntOf,run_underlying hu,sizeOf,typeInfo,hi,F,this]);(exact λK=>absurd C fy)):p:=h
end Go.Proofs.YtecaahegomdbbaaGreatDoor
namespace Go.Proofs.YtecaahegomdbbaaGreatDoor.gr
open Go.Proofs.Tryz
open Go.RowKit
variable {listed:Array Bool} {full:Array li} {cs:Array i6} {want:Bool} {a b r:Int} {k:kw} {l:ip li} {args:ip i7} {vs:ip i6} {N bytes c f g j o z:Nat} {hi i lo x y:i7} {A:Option Addr} {p q:Prop} {e m n s u:i9} {v v0 v1 v2:i6} {w w':i5}
structure Hid (q:Prop):Prop where
 out:q
def gk0 (k:q) (h:Hid q->p:=by intro hq;(first|refine KI fx ?_|refine Jv fx ?_|refine Bw fx fx (by with_reducible assumption) ?_|refine pg fx fx fx (by omega) ?_|refine Ku fx fx fx ?_|refine IV fx fx ?_|refine lB ?_|refine IU fx fx fx fx ?_|refine vK fx ?_|refine vh fx ?_|refine I2 fx fx ?_|refine ti fx ?_|refine Jb fx ?_|refine u6 fx fx fx ?_|refine vN fx fx fx ?_|refine vm fx fx (by omega) (by omega) ?_|refine vV fx fx (by omega) (by omega) ?_|refine vu fx fx (by omega) (by omega) ?_|refine oU fx fx (by omega) (by omega) ?_|refine oW fx fx (by omega) (by omega) ?_|refine uk fx fx (by omega) (by omega) (by omega) ?_|refine tQ fx fx (by omega) (by omega) (by omega) ?_|refine l9 fx fx (by omega) ?_|refine mB fx fx (by omega) ?_|refine mu fx fx (by omega) ?_|refine l7 fx fx (by omega) ?_|refine mf fx fx (by omega) ?_|refine l6 fx fx (by omega) ?_|refine ma fx fx (by omega) ?_|refine my fx fx (by omega) ?_|refine ml fx fx (by omega) ?_|refine mv fx fx (by omega) ?_|refine mb fx fx (by omega) ?_|refine mw fx fx (by omega) ?_|refine nb ?_|refine nN ?_|refine nR fx ?_);exact hq.out):p:=h ⟨k⟩
def go1 (k:q) (h:Hid q->p:=by intro hq;(first|refine gk0 ?_|refine O6 fx ?_|refine RN fx ?_|refine ur (by kernel_rfl) ?_|refine oD (by kernel_rfl) (by decide+kernel) ?_|refine pj ?_|refine B0 ?_|refine Bw fx fx (by assumption) ?_|fail);exact hq.out):p:=h ⟨k⟩
def go (k:q) (h:Hid q->p:=by intro hq;(repeat' (first|refine go1 ?_|fail));exact hq.out):p:=h ⟨k⟩
def fT (k:q) (h:Hid q->p:=by intro hq;(first|refine gk0 ?_|refine O6 fx ?_|refine RN fx ?_|refine ur (by kernel_rfl) ?_|refine oD (by kernel_rfl) (by decide+kernel) ?_|refine pj ?_|refine B0 ?_|fail);exact hq.out):p:=h ⟨k⟩
def fA (k:q) (h:Hid q->p:=by intro hq;(repeat' (first|refine fT ?_|fail));exact hq.out):p:=h ⟨k⟩
def pY (k:q) (h:Hid q->p:=by intro hq;(first|refine gk0 ?_|refine O6 fx ?_|refine RN fx ?_|refine ur (by kernel_rfl) ?_|refine oD (by kernel_rfl) (by decide+kernel) ?_|refine pj ?_|refine B0 ?_|refine O1 (op:= .rem) fx fx fx (by omega) (by omega) (by omega) ?_|refine O1 (op:= .quo) fx fx fx (by omega) (by omega) (by omega) ?_|refine B1 fx fx fx (by omega) (by omega) ?_|refine ya fx fx fx (by omega) (by omega) ?_|refine GP fx fx fx ?_|refine FT fx fx fx ?_|fail);exact hq.out):p:=h ⟨k⟩
def kC (k:q) (h:Hid q->p:=by intro hq;(repeat' (first|refine pY ?_|fail));exact hq.out):p:=h ⟨k⟩
def HV (k:q) (h:Hid q->p:=by intro hq;(first|refine gk0 ?_|refine O6 fx ?_|refine RN fx ?_|refine ur (by kernel_rfl) ?_|refine oD (by kernel_rfl) (by decide+kernel) ?_|refine pj ?_|refine B0 ?_|refine QJ fx fx ?_|refine Pk fx fx ?_|fail);exact hq.out):p:=h ⟨k⟩
def KJ (k:q) (h:Hid q->p:=by intro hq;(repeat' (first|refine HV ?_|fail));exact hq.out):p:=h ⟨k⟩
def goX (k:q) (h:Hid q->p:=by intro hq;(repeat' (first|refine gk0 ?_|refine O6 fx ?_|refine RN fx ?_|refine ur (by kernel_rfl) ?_|refine oD (by kernel_rfl) (by decide+kernel) ?_|refine pj ?_|refine B0 ?_|refine Bw fx fx (by assumption) ?_|refine abu fx fx fx fx (by omega) ?_));exact hq.out):p:=h ⟨k⟩
def KS (k:q) (h:Hid q->p:=by intro hq;(first|refine xp fx ?_|refine lB ?_|refine xai fx fx fx (by omega) (by omega) ?_|refine xdi fx fx fx (by omega) (by omega) (by omega) ?_|refine Zq fx fx fx (by omega) (by omega) ?_|refine SL fx fx fx (by omega) ?_|refine SM fx fx fx (by omega) ?_|refine xgy fx ?_|refine xgn fx ?_|refine nb ?_|refine O6 fx ?_|refine RN fx ?_|refine nN ?_|refine ur (by kernel_rfl) ?_|refine oD (by kernel_rfl) (by decide+kernel) ?_|refine pj ?_|refine B0 ?_|refine nR fx ?_|refine pg fx fx fx (by omega) ?_|refine Bw fx fx (by assumption) ?_|fail);exact hq.out):p:=h ⟨k⟩
def wk (k:q) (h:Hid q->p:=by intro hq;(repeat' (first|refine KS ?_|fail));exact hq.out):p:=h ⟨k⟩
def ZI (k:q) (h:Hid q->p:=by intro hq;(first|refine xp fx ?_|refine lB ?_|refine xai fx fx fx (by omega) (by omega) ?_|refine xdi fx fx fx (by omega) (by omega) (by omega) ?_|refine Zq fx fx fx (by omega) (by omega) ?_|refine SL fx fx fx (by omega) ?_|refine SM fx fx fx (by omega) ?_|refine xgy fx ?_|refine xgn fx ?_|refine O6 fx ?_|refine RN fx ?_|refine nN ?_|refine ur (by kernel_rfl) ?_|refine oD (by kernel_rfl) (by decide+kernel) ?_|refine pj ?_|refine B0 ?_|refine nR fx ?_|refine pg fx fx fx (by omega) ?_|refine Bw fx fx (by assumption) ?_|fail);exact hq.out):p:=h ⟨k⟩
def Zn (k:q) (h:Hid q->p:=by intro hq;(repeat' (first|refine ZI ?_|fail));exact hq.out):p:=h ⟨k⟩
def Zc (k:q) (h:Hid q->p:=by intro hq;(repeat' (first|refine gk0 ?_|refine O6 fx ?_|refine RN fx ?_|refine pj ?_|refine B0 ?_));exact hq.out):p:=h ⟨k⟩
def l4 (k:q) (h:Hid q->p:=by intro hq;(repeat' (first|refine ie fx fx ?_|refine iE fx fx ?_|refine fT ?_));exact hq.out):p:=h ⟨k⟩
def gz2 (k:q) (h:Hid q->p:=by intro hq;(repeat' (first|refine gk0 ?_|refine O6 fx ?_|refine RN fx ?_|refine ur (by kernel_rfl) ?_|refine oD (by kernel_rfl) (by decide+kernel) ?_));exact hq.out):p:=h ⟨k⟩
def gz3 (k:q) (h:Hid q->p:=by intro hq;(repeat' (first|refine gk0 ?_|refine ur (by kernel_rfl) ?_|refine oD (by kernel_rfl) (by decide+kernel) ?_));exact hq.out):p:=h ⟨k⟩
def zD (k:q) (h:Hid q->p:=by intro hq;(repeat' (first|refine gH i (o+i*2) fx fx fx fx fx fY ?_|refine fT ?_));exact hq.out):p:=h ⟨k⟩
def Vu (k:q) (h:Hid q->p:=by intro hq;(repeat' (first|refine QS (z:=c) i fx fx fx fx hc ?_|refine ie fx fx ?_|refine iE fx fx ?_|refine fT ?_));exact hq.out):p:=h ⟨k⟩
def Zg (k:q) (h:Hid q->p:=by intro hq;(repeat' (first|refine gk (op:= .eql) (b:=[]) (r:=false) fx fx (by simp[hG,h0]) ?_|refine ie fx fx ?_|refine iE fx fx ?_|refine fT ?_));exact hq.out):p:=h ⟨k⟩
def gz7 (k:q) (h:Hid q->p:=by intro hq;(repeat' (first|refine gk (op:= .eql) (b:=[]) (r:=false) fx fx (by simp[hG,h0]) ?_|refine gk (op:= .eql) (a:=s) (b:=p) (r:=false) fx fx (by simp[hG,h1]) ?_|refine xI p.length fx fx fx fx (by omega) ?_|refine gk (op:= .eql) (a:=s.take p.length) (b:=p) (r:=true) fx fx (by simp[hG,h3]) ?_|refine QS (z:=c) p.length fx fx fx fx hc ?_|refine ie fx fx ?_|refine iE fx fx ?_|refine fT ?_));exact hq.out):p:=h ⟨k⟩
def Y8 (k:q) (h:Hid q->p:=by intro hq;(repeat' (first|refine gk (op:= .eql) (b:=[]) (r:=true) fx fx fx ?_|refine ie fx fx ?_|refine iE fx fx ?_|refine fT ?_));exact hq.out):p:=h ⟨k⟩
def Zr (k:q) (h:Hid q->p:=by intro hq;(repeat' (first|refine gH i (o+i*2) fx fx fx fx fx fY ?_|refine ie fx fx ?_|refine iE fx fx ?_|refine fT ?_));exact hq.out):p:=h ⟨k⟩
def E8 (k:q) (h:Hid q->p:=by intro hq;(repeat' (first|refine gH k (o'+k*12) fx fx fx fx fx pA ?_|refine fT ?_));exact hq.out):p:=h ⟨k⟩
def Z9 (k:q) (h:Hid q->p:=by intro hq;(repeat' (first|refine xp fx ?_|refine lB ?_|refine gH (A.length+P.length+1) ((A.length+P.length+1)*2) fx fx fx (by omega) (by omega) (by omega) ?_|refine gH (A.length+P.length) ((A.length+P.length)*2) fx fx fx (by omega) (by omega) (by omega) ?_|refine FY JS fx fx (by omega) ?_|refine KS ?_));exact hq.out):p:=h ⟨k⟩
def GR (k:q) (h:Hid q->p:=by intro hq;(repeat' (first|refine gH i (o+i*3) fx fx fx fx fx fY ?_|refine fT ?_));exact hq.out):p:=h ⟨k⟩
def Nh (k:q) (h:Hid q->p:=by intro hq;(repeat' (first|refine gk (op:= .neq) (b:=[]) (r:=false) fx fx (by simp[hG,ht]) ?_|refine fT ?_));exact hq.out):p:=h ⟨k⟩
def OH (k:q) (h:Hid q->p:=by intro hq;(repeat' (first|refine gH i (i*2) fx fx fx fx (by omega) (by omega) ?_|refine fT ?_));exact hq.out):p:=h ⟨k⟩
def HE (k:q) (h:Hid q->p:=by intro hq;(repeat' (first|refine pG fx fx (λ_ h=>h) ?_|refine fT ?_));exact hq.out):p:=h ⟨k⟩
def P9 (k:q) (h:Hid q->p:=by intro hq;(repeat' (first|refine kt i (o+i) fx fx fx fx fx fY ?_|refine KH fx k0 ?_|refine fT ?_));exact hq.out):p:=h ⟨k⟩
def BR (k:q) (h:Hid q->p:=by intro hq;(repeat' (first|refine aec fx ?_|refine fT ?_));exact hq.out):p:=h ⟨k⟩
def Q6 (k:q) (h:Hid q->p:=by intro hq;(repeat' (first|refine gH i (i*12) fx fx fx fx (by omega) (by omega) ?_|refine fT ?_));exact hq.out):p:=h ⟨k⟩
def Rx (k:q) (h:Hid q->p:=by intro hq;(repeat' (first|refine gH i (o+i*12) fx fx fx fx fx (by omega) ?_|refine fT ?_));exact hq.out):p:=h ⟨k⟩
def aak (k:q) (h:Hid q->p:=by intro hq;(repeat' (first|refine kt j j fx fx fx fx (by omega) hlj ?_|refine gH j (o3+j*12) fx fx fx fx fx (by omega) ?_|refine fT ?_));exact hq.out):p:=h ⟨k⟩
def aa5 (k:q) (h:Hid q->p:=by intro hq;(repeat' (first|refine kt ((fX l).length-1) (o+((fX l).length-1)) fx fx fx (by omega) fx (by omega) ?_|refine ie fx fx ?_|refine iE fx fx ?_|refine fT ?_));exact hq.out):p:=h ⟨k⟩
def UX (k:q) (h:Hid q->p:=by intro hq;(repeat' (first|refine gH k (o'+k*12) fx fx fx hk fx (by omega) ?_|refine fT ?_));exact hq.out):p:=h ⟨k⟩
def X9 (k:q) (h:Hid q->p:=by intro hq;(repeat' (first|refine gk (op:= .eql) (b:=[]) (r:=false) fx fx (by simp[hG,g1]) ?_|refine fT ?_));exact hq.out):p:=h ⟨k⟩
def abl (k:q) (h:Hid q->p:=by intro hq;(repeat' (first|refine gH i (o+i*2) fx fx fx fx fx fY ?_|refine gk (op:= .eql) (r:=false) fx fx (by simp[hG,e]) ?_|refine fT ?_));exact hq.out):p:=h ⟨k⟩
def abe (k:q) (h:Hid q->p:=by intro hq;(repeat' (first|refine gH i (o+i*2) fx fx fx fx fx fY ?_|refine gk (op:= .eql) (r:=true) fx fx (by simp[hG,e]) ?_|refine fT ?_));exact hq.out):p:=h ⟨k⟩
def aat (k:q) (h:Hid q->p:=by intro hq;(repeat' (first|refine gH 0 (o+0*2) fx fx fx fx fx (by omega) ?_|refine gH k (o'+k*12) fx fx fx hk fx (by omega) ?_|refine fT ?_));exact hq.out):p:=h ⟨k⟩
def abM (k:q) (h:Hid q->p:=by intro hq;(repeat' (first|refine gH i (i*12) fx fx fx fx (by omega) h1 ?_|refine xcv (r:=((uN z:Nat):Int)) fx fx fx (Ph z) ?_|refine pY ?_));exact hq.out):p:=h ⟨k⟩
def ZE (k:q) (h:Hid q->p:=by intro hq;(repeat' (first|refine gH 0 (o+0*2) fx fx fx fx fx (by omega) ?_|refine gH k (o3+k*12) fx fx fx hk fx (by omega) ?_|refine fT ?_));exact hq.out):p:=h ⟨k⟩
def XW (k:q) (h:Hid q->p:=by intro hq;(repeat' (first|refine gk (op:= .neq) (r:=false) fx fx (by simp[hG,e4]) ?_|refine fT ?_));exact hq.out):p:=h ⟨k⟩
def Uk (k:q) (h:Hid q->p:=by intro hq;(repeat' (first|refine iE fx fx ?_|refine fT ?_));exact hq.out):p:=h ⟨k⟩
section
inductive TA where
 |p|r|h|w
 deriving DecidableEq
def cls (fD fC:i9->Bool):Op->TA
 | .move _| .assign _| .pick .. | .build .. | .nilCheck _| .binOp .. | .unOp .. | .fieldAddr .. | .field .. | .indexAddr .. | .index .. | .slice .. | .extract .. | .makeFunc .. => .p
 | .convert s d _=>if fD s&&fD d then .p else if fC d then .r else .w
 | .call {callee:= .builtin .len,.. }=> .p
 | .call {callee:= .builtin .min,.. }=> .p
 | .call {callee:= .builtin .max,.. }=> .p
 | .load .. => .r
 |_=> .w
def out (P:Program) (r:Result Next) (S:i6->i5->Prop):Prop:=
 match r with
 | .ok (.value v) w'=>S v w'
 | .ok .skip w'=>S undef w'
 | .ok (.enter f args) w'=>Calls P f args w' (λe d=>∃v,e= .returned v/\S v d)
 |_=>False
def n4:ip Nat->Option Nat->Bool
 |_,none=>false
 |[],_=>false
 |k::r,some t=>match Nat.beq k t with
  |true=>true
  |false=>n4 r (some t)
def ja (fD fC:i9->Bool) (hs:ip Nat) (o:li):TA:=match cls fD fC o.op with
 | .r=>match n4 hs o.dst with
  |true=> .h
  |false=> .r
 |c=>c
def wV (P:Program) (H:i5->Prop) (c:TA) (s:Sem Next) (w:i5) (S:i6->i5->Prop):Prop:=
 match c with
 | .p=>∃v,(∀w',s.run P w'= .ok (.value v) w')/\S v w
 | .r=>∃v,s.run P w= .ok (.value v) w/\S v w
 | .h=>∃v,(∀w',H w'->s.run P w'= .ok (.value v) w')/\S v w
 | .w=>out P (s.run P w) (λv w'=>H w'/\S v w')
variable {P:Program} {fD fC:i9->Bool} {hs:ip Nat} {H:i5->Prop}
def uI {r:Result Next} {S g:i6->i5->Prop} (h:∀v w,S v w->g v w) (d:out P r S):out P r g:=by
 cases r with
 |halt x w=>exact d
 |ok n w=>
  cases n with
  |value v=>exact h _ _ d
  |skip=>exact h _ _ d
  |enter f args=>exact pS d fM
  |_=>exact d
theorem kp {c:TA} {s:Sem Next} {S g:i6->i5->Prop} (hw:H w) (h:∀v w,H w->S v w->g v w) (f:wV P H c s w S):wV P H c s w g:=by
 cases c with
 |p=>obtain⟨v,h1,d⟩:=f;exact⟨v,h1,h _ _ hw d⟩
 |r=>obtain⟨v,h1,d⟩:=f;exact⟨v,h1,h _ _ hw d⟩
 |h=>obtain⟨v,h1,d⟩:=f;exact⟨v,h1,h _ _ hw d⟩
 |w=>exact uI fM f
def Qz {r:Result Next} {S:i6->i5->Prop} (h:out P r S):∃v w,S v w:=by
 unfold out at h;split at h
 .exact⟨_,_,h⟩
 .exact⟨_,_,h⟩
 .obtain⟨e,w',fr,⟨v,_,k⟩,_⟩:=h []
  grind
 .exact h.elim
def w2 {c:TA} {s:Sem Next} {S:i6->i5->Prop} (hw:H w) (h:wV P H c s w S):∃v w',H w'/\S v w':=by
 cases c with
 |p=>obtain⟨v,_,d⟩:=h;grind
 |r=>obtain⟨v,_,d⟩:=h;grind
 |h=>obtain⟨v,_,d⟩:=h;grind
 |w=>obtain⟨v,w',h1,d⟩:=Qz h;grind
def RJ:TA->TA->Bool
 | .p,_|_,.p=>true
 | .h,_|_,.h=>true
 | .r,.r=>true
 |_,_=>false
def Nf {c d:TA} {s t:Sem Next} {S:i6->i6->i5->Prop} (hc:RJ c d=true) (hw:H w)
  (h:wV P H c s w (λv w'=>wV P H d t w' (λu g=>S v u g))):wV P H d t w (λu w'=>wV P H c s w' (λv g=>S v u g)):=by
 cases d with
 |p=>
  obtain⟨v0,w0,_,u,hu,_⟩:=w2 hw h;refine⟨u,hu,kp hw (λv w' _ ⟨n,m,k⟩=>?_) h⟩
  simp_all
 |h=>
  obtain⟨v0,w0,_,u,hu,_⟩:=w2 hw h;refine⟨u,hu,kp hw (λv w' x ⟨n,m,k⟩=>?_) h⟩
  grind
 |r=>
  cases c with
  |p=>obtain⟨v,f,u,hu,k⟩:=h;exact⟨u,hu,v,f,k⟩
  |h=>obtain⟨v,f,u,hu,k⟩:=h;exact⟨u,hu,v,f,k⟩
  |r=>obtain⟨v,f,u,hu,k⟩:=h;exact⟨u,hu,v,f,k⟩
  |w=>cases hc
 |w=>
  cases c with
  |p=>obtain⟨v,f,k⟩:=h;exact kp (c:= .w) hw (λu w' _ k=>⟨v,f,k⟩) k
  |h=>obtain⟨v,f,k⟩:=h;exact kp (c:= .w) hw (λu w' _ k=>⟨v,f,k⟩) k
  |r=>cases hc
  |w=>cases hc
def s1 (P:Program) (fD fC:i9->Bool) (hs:ip Nat) (H:i5->Prop) (full:Array li) (o:li) (K:Act->i5->Prop) (a:Act) (w:i5):Prop:=
 if Region.wanted o (yielded full a.tmps)=true then wV P H (ja fD fC hs o) (execOp a.eval o) w (λv w'=>K (a.put o.dst v) w')
 else K (a.put o.dst undef) w
def yO {o:li} {K K':Act->i5->Prop} {a:Act} (f:H w) (h:∀a w,H w->K a w->K' a w) (d:s1 P fD fC hs H full o K a w):s1 P fD fC hs H full o K' a w:=by
 grind [s1,kp]
def L4 {x y:li} {K:Act->i5->Prop} {a:Act} (hw:H w) (f:x.apart full y=true) (hc:RJ (ja fD fC hs x) (ja fD fC hs y)=true)
  (g:∀cs b,x.op≠ .select cs b) (m:∀cs b,y.op≠ .select cs b)
  (h:s1 P fD fC hs H full x (s1 P fD fC hs H full y K) a w):s1 P fD fC hs H full y (s1 P fD fC hs H full x K) a w:=by
 obtain⟨h1,D,h3⟩:=Oper.apart_spec f;have C:∀v,Region.wanted y (yielded full (a.put x.dst v).tmps)=Region.wanted y (yielded full a.tmps):=by grind [wanted_put]
 have B:∀v,Region.wanted x (yielded full (a.put y.dst v).tmps)=Region.wanted x (yielded full a.tmps):=by grind [wanted_put]
 have d:∀v,execOp (a.put x.dst v).eval y=execOp a.eval y:=λv=>execOp_put y m a x.dst v h1
 have ex:∀v,execOp (a.put y.dst v).eval x=execOp a.eval x:=λv=>execOp_put x g a y.dst v h3
 have pc:∀(v u:i6),(a.put x.dst v).put y.dst u=(a.put y.dst u).put x.dst v:=by grind [Act.put_comm]
 unfold s1 at*;simp only[C,B,d,ex,pc]at*
 by_cases n:Region.wanted x (yielded full a.tmps)=true<;>by_cases t:Region.wanted y (yielded full a.tmps)=true<;>
  simp only[n,t,if_true,if_false,Hb]at h|-
 .exact Nf hc hw h
 .exact h
 .exact h
 .exact h
def oK {i:Nat} {o:li} {K K':Act->i5->Prop} {Q:Exit->Act->i5->Prop} {a:Act} (g:H w) (f:∀a w,H w->K a w->K' a w) (hi:full[i]? =some o) (h:s1 P fD fC hs H full o K a w):wpOp P full Q i K' a w:=by
 unfold wpOp;rw[hi];unfold s1 at h;dsimp only;split
 .rename_i hw;rw[if_pos hw]at h;refine .inl ?_;generalize ja fD fC hs o=c at h;cases c with
  |p=>obtain⟨v,h1,d⟩:=h;grind [Oper.wp,Oper.upon]
  |r=>obtain⟨v,h1,d⟩:=h;grind [Oper.wp,Oper.upon]
  |h=>obtain⟨v,h1,d⟩:=h;grind [Oper.wp,Oper.upon]
  |w=>
   unfold Oper.wp;unfold wV out at h;dsimp only at h;split at h
   .rename_i e;rw[e];exact f _ _ h.1 h.2
   .rename_i e;rw[e];exact f _ _ h.1 h.2
   .rename_i e;rw[e];exact pS h fM
   .exact h.elim
 grind
def ss (P:Program) (fD fC:i9->Bool) (hs:ip Nat) (H:i5->Prop) (full:Array li) (K:Act->i5->Prop):ip Nat->Act->i5->Prop
 |[],a,w=>K a w
 |i::ii,a,w=>match full[i]? with
  |none=>False
  |some o=>s1 P fD fC hs H full o (ss P fD fC hs H full K ii) a w
def free (fD fC:i9->Bool) (hs:ip Nat) (full:Array li) (j i:Nat):Bool:=
 match full[j]?,full[i]? with
 |some x,some y=>x.apart full y&&RJ (ja fD fC hs x) (ja fD fC hs y)
 |_,_=>false
theorem vp {full:Array li} {K:Act->i5->Prop} (n:Region.noSelect full=true) {i:Nat} {o:li} (f:full[i]? =some o) (l2:ip Nat):∀(l1:ip Nat) (a:Act) (w:i5),
  (∀j∈l1,free fD fC hs full j i=true)->H w->ss P fD fC hs H full K (l1++i::l2) a w->s1 P fD fC hs H full o (ss P fD fC hs H full K (l1++l2)) a w
 |[],a,w,_,_,h=>by grind [ss]
 | j::l1,a,w,m,hw,h=>by
  have d:=m j iB;unfold free at d;cases g:full[j]? with
  |none=>grind
  | some x=>
   rw[g,f]at d;simp only[iU]at d;simp only[rf,ss,g]at h|-
   exact L4 hw d.1 d.2 (by grind [Region.noSelect_spec]) (by grind [Region.noSelect_spec])
    (yO hw (λa w t k=>vp n f l2 l1 a w fM t k) h)
def yV (fD fC:i9->Bool) (hs:ip Nat) (full:Array li) (A:Array Nat):Bool:=
 Region.noSelect full&&(List.range full.size).all λi=>
  match full[i]? with
  |none=>false
  | some o=>
   (o.after.all λe=>!Region.binds .any e||decide (e.on<i))&&
   (List.range i).all λj=>
    if(A.getD i 0).testBit j then o.after.any λe=>Region.binds .any e&&(e.on==j||(decide (j<e.on)&&(A.getD e.on 0).testBit j))
    else free fD fC hs full j i
structure Rp (fD fC:TypeId->Bool) (hs:List Nat) (full:Array Oper) (A:Array Nat):Prop where
 V3:Region.noSelect full=true
 down:∀i o,full[i]? =some o->∀e∈o.after,Region.binds .any e=true->e.on<i
 WR:∀i o,full[i]? =some o->∀j,j<i->(A.getD i 0).testBit j=true->∃e∈o.after,Region.binds .any e=true/\(e.on=j\/(j<e.on/\(A.getD e.on 0).testBit j=true))
 fre:∀i o,full[i]? =some o->∀j,j<i->(A.getD i 0).testBit j=false->free fD fC hs full j i=true
def JX {A:Array Nat} (h:yV fD fC hs full A=true):Rp fD fC hs full A:=by
 unfold yV at h;rw[iU]at h
 have m:∀i o,full[i]? =some o->(o.after.all λe=>!Region.binds .any e||decide (e.on<i))=true/\
   ∀j,j<i->(if(A.getD i 0).testBit j then o.after.any λe=>Region.binds .any e&&(e.on==j||(decide (j<e.on)&&(A.getD e.on 0).testBit j))
    else free fD fC hs full j i)=true:=fM
 refine⟨h.1,λi o d e he n=>?_,λi o d j g f=>?_,λi o d j g f=>?_⟩<;>grind [Array.all_eq_true_iff_forall_mem,Array.any_eq_true']
def I3 {A:Array Nat} (hq:Rp fD fC hs full A) (B:listed.size=full.size)
  (down:∀i o,full[i]? =some o->listed.getD i false=true->∀e∈o.after,Region.binds .any e=true->listed.getD e.on false=true) {j:Nat}:
  ∀(m k:Nat),k<m->listed.getD k false=true->(A.getD k 0).testBit j=true->j<k->listed.getD j false=true:=by
 intro m
 induction m with
 |zero=>intro k hk;omega
 | succ m x=>
  intro k hk v t u
  have y:k<full.size:=by
   rcases p9 k full.size with d|d
   .exact d
   .grind
  obtain⟨ok,f⟩:∃ok,full[k]? =some ok:=lX;obtain⟨e,he,g,w⟩:=hq.WR k ok f j u t;have hle:=down k ok f v e he g;rcases w with d|⟨fY,n⟩
  .grind
  .exact x e.on (by have:=hq.down k ok f e he g;omega) hle n fY
def Gl {A:Array Nat} (hq:Rp fD fC hs full A) {K:Act->i5->Prop} {Q:Exit->Act->i5->Prop} (v:∀a w,K a w->Q .normal a w):
  ∀(fuel:Nat) (listed:Array Bool) (l:ip Nat) (a:Act) (w:i5),H w->listed.size=full.size->l.length<=fuel->l.Pairwise (· <·)->(∀i,i∈l↔i<full.size/\listed.getD i false=false)->
   (∀i o,full[i]? =some o->listed.getD i false=true->∀e∈o.after,Region.binds .any e=true->listed.getD e.on false=true)->
   ss P fD fC hs H full K l a w->wpAny P .any full Q fuel listed a w:=by
 intro fuel
 have start:∀(listed:Array Bool) (l:ip Nat) (a:Act) (w:i5),listed.size=full.size->l.Pairwise (· <·)->(∀i,i∈l↔i<full.size/\listed.getD i false=false)->ss P fD fC hs H full K l a w->
   Region.ready .any full listed=[]->Q .normal a w:=by
  intro listed l a w n t g h y;cases l with
  |nil=>exact v _ _ h
  | cons i r=>
   exfalso;have hi:=(g i).1 iB;obtain⟨o,d⟩:∃o,full[i]? =some o:=lX
   have:i∈Region.ready .any full listed:=by
    rw[mem_ready];refine⟨?_,o,d,λe he m=>?_⟩
    .grind
    .have fY:=hq.down i o d e he m
     grind [List.rel_of_pairwise_cons]
   grind
 induction fuel with
 | zero=>
  intro listed l a w hw n hlen t g x h;have L:l=[]:=fM;subst L;refine⟨?_,v _ _ h⟩;cases y:Region.ready .any full listed with
  |nil=>rfl
  |cons i r=>
   exfalso;have hi:i∈Region.ready .any full listed:=by rw[y];simp
   grind [mem_ready,Array.size,Array.getElem?_eq_some_iff,Array.getD_eq_getD_getElem?,Array.getElem?_eq_getElem]
 | succ fuel S=>
  intro listed l a w hw n hlen t g x h;refine⟨fM,λi hi=>?_⟩;obtain⟨h0,o,d,D⟩:=mem_ready.1 hi;have fY:i<full.size:=fM
  have O:listed.getD i false=false:=by
   rw[pq,wW fy]at h0|-;simpa using h0
  obtain⟨l1,l2,rfl⟩:=QN ((g i).2 ⟨fY,O⟩)
  have E:∀j∈l1,free fD fC hs full j i=true:=λj F=>by
   have f:j<i:=fM;have V:=((g j).1 (by simp[F])).2;cases u:(A.getD i 0).testBit j with
   |false=>exact hq.fre i o d j f u
   | true=>
    exfalso;obtain⟨e,he,m,M⟩:=hq.WR i o d j f u;have hle:=D e he m
    have:listed.getD j false=true:=by
     rcases M with U|⟨J,C⟩
     .grind
     .exact I3 hq n x (e.on+1) e.on fy hle C J
    grind
  refine oK (fD:=fD) (fC:=fC) (hs:=hs) hw (λB w' R k=>?_) d (vp hq.V3 d l2 l1 a w E hw h);have N:=ke.1 t;have X:=jA.1 N.2.1;refine S _ (l1++l2) B w' R (by simpa using n) fM fM (λj=>?_) ?_ k
  .by_cases f:j=i
   .subst f;constructor
    .grind
    simp_all
   .rw[getD_set_ne false (uG f),<-g j];simp[f]
  .intro T ok W I e he m;refine getD_set_true ?_
   by_cases G:T=i
   .grind
   .rw[getD_set_ne false (uG G)]at I
    grind
def vo {id:Nat} {K:Act->i5->Prop} {Q:Exit->Act->i5->Prop} {a:Act} (hm:P.follows .mixedOrders=true) (hw:H w.drew)
  (hq:yV fD fC hs full (Region.before full)=true) (d:∀a w,K a w->Q .normal a w)
  (h:ss P fD fC hs H full K (List.range full.size) a w.drew):(Code.region id full true).wp P Q a w:=
 wp_region_any hm (Gl (JX hq) d full.size _ (List.range full.size) a _ hw iB iB QT
  lX (λi o g f=>by
   exfalso;rw[pq,Ry]at f
   grind) h)
theorem xm {full:Array li} {K:Act->i5->Prop} {Q:Exit->Act->i5->Prop} (d:∀a w,K a w->Q .normal a w):∀(l:ip Nat) (a:Act) (w:i5),H w->ss P fD fC hs H full K l a w->wpOps P full Q l a w
 |[],a,w,_,h=>d _ _ h
 |i::l,a,w,hw,h=>by
  rw[wpOps_cons];simp only[ss]at h;split at h
  .exact h.elim
  .rename_i o f;exact oK hw (λa w hw k=>xm d l a w hw k) f h
def tC {id:Nat} {K:Act->i5->Prop} {Q:Exit->Act->i5->Prop} {a:Act} (hw:H w) (d:∀a w,K a w->Q .normal a w)
  (h:ss P fD fC hs H full K (List.range full.size) a w):(Code.region id full false).wp P Q a w:=
 wp_region (xm d _ a w hw h)
end
section
abbrev Env:=ip (Nat×i6)
def look:Env->Nat->Option i6
 |[],_=>none
 |(k,v)::r,t=>match Nat.beq k t with
  |true=>some v
  |false=>look r t
def gh (Y:Env):i7->Option i6
 | .tmp t=>look Y t
 | .const v=>some v
 | .global g=>some (.P g)
 | .func f=>some (.func (.func f) #[] #[])
def ev (Y:Env) (x:i7):i6:=(gh Y x).getD undef
def Fits (N:Nat) (Y:Env) (a:Act):Prop:=a.defers=[]/\a.tmps.size=N/\∀t v,look Y t=some v->a.tmps[t]? =some v
def put (Y:Env):Option Tmp->i6->Env
 |some d,v=>(d,v)::Y
 |none,_=>Y
theorem kj (k:Nat) (v:i6) (r:Env) (t:Nat):look ((k,v)::r) t=if k=t then some v else look r t:=by
 simp only[look]
 by_cases h:k=t
 .subst h;simp
 grind [Nat.beq,absurd,Nat.eq_of_beq_eq_true]
def Fits.eval {N:Nat} {Y:Env} {a:Act} (h:Fits N Y a) {x:i7} {v:i6} (d:gh Y x=some v):a.eval x=v:=by
 cases x with
 |tmp t=>simp only[Act.eval];rw[pq,h.2.2 t v d];rfl
 |const u=>injection d
 |global g=>injection d
 |func f=>injection d
theorem Fits.put {N:Nat} {Y:Env} {a:Act} (h:Fits N Y a) (d:Option Tmp) (g:∀t,d=some t->t<N) (v:i6):Fits N (put Y d v) (a.put d v):=by
 obtain⟨h1,f,h3⟩:=h;cases d with
 |none=>exact⟨h1,f,h3⟩
 |some d=>
  refine⟨h1,by grind [Act.put],λt u hu=>?_⟩
  grind [gr.put,kj,Act.put,Array.getElem?_setIfInBounds_self_of_lt,Array.getElem?_setIfInBounds_ne]
def gd (Y:Env) (o:li):Bool:=o.op.operands.toList.all λx=>(gh Y x).isSome
def EJ {Y:Env} {a:Act} (h:Fits N Y a) {o:li} (hs:∀cs b,o.op≠ .select cs b) (f:gd Y o=true):execOp (ev Y) o=execOp a.eval o:=
 execOp_congr o hs λx g=>by
  have:=ld.1 f x (by simpa using g);obtain⟨v,d⟩:=rB.1 this;rw[h.eval d];simp[ev,d]
def gv (full:Array li) (Y:Env) (g:Option (Nat×Bool)):Option Bool:=
 match g with
 |none=>some true
 | some (j,want)=>match(full[j]?).bind (·.dst)with
  |none=>some false
  |some d=>match look Y d with
   |some (.bool true)=>some want
   |some (.bool false)=>some (!want)
   |some _=>some false
   |none=>none
def wJ {Y:Env} {a:Act} (h:Fits N Y a) {o:li} {b:Bool} (f:gv full Y o.guard=some b):Region.wanted o (yielded full a.tmps)=b:=by
 unfold gv at f;unfold Region.wanted;cases n:o.guard with
 |none=>grind
 | some t=>
  obtain⟨j,want⟩:=t;rw[n]at f;dsimp only at f|-;unfold yielded;cases m:(full[j]?).bind (·.dst)with
  |none=>grind
  | some d=>
   rw[m]at f;dsimp only at f;cases g:look Y d with
   |none=>grind
   |some v=>
    rw[g]at f;simp only[Cy,h.2.2 d v g];cases v with
    |bool c=>cases c<;>injection f with f<;>subst f<;>cases want<;>rfl
    |_=>injection f
variable {P:Program} {fD fC:i9->Bool} {hs:ip Nat} {H:i5->Prop}
def xs (P:Program) (fD fC:i9->Bool) (hs:ip Nat) (H:i5->Prop) (full:Array li) (K:Env->i5->Prop):ip li->Env->i5->Prop
 |[],Y,w=>K Y w
 | o::ii,Y,w=>∃g,gv full Y o.guard=some g/\
   (g=true->gd Y o=true/\wV P H (ja fD fC hs o) (execOp (ev Y) o) w (λv w'=>xs P fD fC hs H full K ii (put Y o.dst v) w'))/\
   (g=false->xs P fD fC hs H full K ii (put Y o.dst undef) w)
theorem pP {N:Nat} {full:Array li} {K:Env->i5->Prop} (x:Region.noSelect full=true) (f:∀(i:Nat) (o:li),full[i]? =some o->∀t,o.dst=some t->t<N):
  ∀(l:ip li) (k:Nat) (Y:Env) (a:Act) (w:i5),(∀j,l[j]? =full[k+j]?)->H w->Fits N Y a->xs P fD fC hs H full K l Y w->
   ss P fD fC hs H full (λy w'=>∃m,Fits N m y/\K m w') (List.range' k l.length) a w
 |[],k,Y,a,w,_,_,d,h=>⟨Y,d,h⟩
 | o::l,k,Y,a,w,n,hw,d,h=>by
  have h0:full[k]? =some o:=by simpa using(n 0).symm
  have u:∀j,l[j]? =full[k+1+j]? :=λj=>by have:=n (j+1);grind
  obtain⟨g,D,ht,C⟩:=h;simp only[iP,K7,ss,h0];unfold s1;rw[wJ d D];cases g with
  |true=>
   obtain⟨E,B⟩:=ht rfl;rw[if_pos rfl,<-EJ d (by grind [Region.noSelect_spec]) E];exact kp hw (λv w' F G=>pP x f l (k+1) _ _ w' u F (d.put o.dst (f k o h0) v) G) B
  |false=>
   rw[if_neg fU];exact pP x f l (k+1) _ _ w u hw (d.put o.dst (f k o h0) undef) (C fx)
inductive It where
 |code (c:Code)
 |gO (id:Nat)
 |fin (J:Env->World->Prop)
 |wu (J:Nat->Env->World->Prop)
def HC (P:Program) (N:Nat) (Q:Exit->Act->i5->Prop):ip It->Exit->Act->i5->Prop
 |[]=>Q
 | .code c::k=>Exit.then (λa w=>c.wp P (HC P N Q k) a w) (HC P N Q k)
 | .gO id::k=>Exit.inBlock id (HC P N Q k)
 | .fin d::k=>Exit.then (λa w=>∃Y,Fits N Y a/\d Y w) (HC P N Q k)
 | .wu d::k=>λe a w=>match e with
  | .goto l=>∃Y,Fits N Y a/\d l Y w
  |e=>HC P N Q k e a w
def SQ (d:i6->i5->Prop):Ending->i5->Prop:=λe w=>∃v,e= .returned v/\d v w
def fQ (P:Program) (f:FuncId) (args:Array i6) (w:i5) (d:i6->i5->Prop):Prop:=Calls P f args w (SQ d)
def fQ.mono {f:FuncId} {args:Array i6} {d g:i6->i5->Prop} (h:fQ P f args w d) (m:∀v w',d v w'->g v w'):fQ P f args w g:=
 pS h λ_ _ ⟨v,he,k⟩=>⟨v,he,m _ _ k⟩
def T (P:Program) (fn:Func) (d:i6->i5->Prop) (k:ip It) (Y:Env) (w:i5):Prop:=
 ∀a,Fits fn.ntmps Y a->HC P fn.ntmps (bodyPost P fn (SQ d)) k .normal a w
variable {fn:Func} {R:i6->i5->Prop} {k:ip It} {Y:Env} {w:i5}
def nb {x y:Code} (h:T P fn R (.code x:: .code y::k) Y w):T P fn R (.code (.seq x y)::k) Y w:=λa d=>wp_seq (h a d)
def nN (h:T P fn R k Y w):T P fn R (.code .skip::k) Y w:=λa d=>wp_skip (h a d)
def hI {l:Nat} (h:T P fn R k Y w):T P fn R (.code (.label l)::k) Y w:=λa d=>wp_label (h a d)
def pj {id:Nat} {c:Code} (h:T P fn R (.code c:: .gO id::k) Y w):T P fn R (.code (.block id c)::k) Y w:=λa d=>wp_block (h a d)
def B0 {id:Nat} (h:T P fn R k Y w):T P fn R (.gO id::k) Y w:=λa d=>h a d
def gl {d:Env->i5->Prop} (h:d Y w):T P fn R (.fin d::k) Y w:=λ_ f=>⟨Y,f,h⟩
def O6 {c:i7} {x y:Code} (hc:gh Y c=some (.bool true)) (h:T P fn R (.code x::k) Y w):T P fn R (.code (.cond c x y)::k) Y w:=λa d=>wp_cond_true (d.eval hc) (h a d)
def RN {c:i7} {x y:Code} (hc:gh Y c=some (.bool false)) (h:T P fn R (.code y::k) Y w):T P fn R (.code (.cond c x y)::k) Y w:=λa d=>wp_cond_false (d.eval hc) (h a d)
def Gk (id:Nat):ip It->Option (ip It)
 |[]=>none
 | .gO i::k=>match Nat.beq i id with
  |true=>some k
  |false=>Gk id k
 |_::k=>Gk id k
theorem sr {N:Nat} {Q:Exit->Act->i5->Prop} {id:Nat} {a:Act} {w:i5}:∀{k d:ip It},Gk id k=some d->HC P N Q d .normal a w->HC P N Q k (.exit id) a w
 |[],_,h,_=>by cases h
 | .gO i::k,d,h,hs=>by
  simp only[Gk]at h;show Exit.inBlock i (HC P N Q k) (.exit id) a w
  simp only[Exit.inBlock];split at h
  .simp_all
  .rename_i g;rw[if_neg (by grind [Nat.beq_refl])];exact sr h hs
 | .code c::k,d,h,hs=>sr (k:=k) h hs
 | .fin f::k,d,h,hs=>sr (k:=k) h hs
 | .wu f::k,d,h,hs=>sr (k:=k) h hs
def nR {id:Nat} {d:ip It} (he:Gk id k=some d) (h:T P fn R d Y w):T P fn R (.code (.exit id)::k) Y w:=λa f=>wp_exit (sr he (h a f))
def Sb:ip It->Option (Nat->Env->i5->Prop)
 |[]=>none
 | .wu d::_=>some d
 |_::k=>Sb k
theorem vT {N:Nat} {Q:Exit->Act->i5->Prop} {l:Nat} {g:Nat->Env->i5->Prop} {a:Act} {Y:Env} {w:i5} (f:Fits N Y a) (d:g l Y w):∀{k:ip It},Sb k=some g->HC P N Q k (.goto l) a w
 |[],h=>by cases h
 | .wu m::k,h=>by injection h with h;subst h;exact⟨Y,f,d⟩
 | .code c::k,h=>vT f d (k:=k) h
 | .gO i::k,h=>vT f d (k:=k) h
 | .fin m::k,h=>vT f d (k:=k) h
def hy {l:Nat} {d:Nat->Env->i5->Prop} (hk:Sb k=some d) (h:d l Y w):T P fn R (.code (.goto l)::k) Y w:=λ_ f=>wp_goto (vT f h hk)
theorem mZ {N:Nat} {Q:Exit->Act->i5->Prop} {a:Act} {w:i5} (h:Q .ret a w):∀k:ip It,HC P N Q k .ret a w
 |[]=>h
 | .code _::k=>mZ h k
 | .gO _::k=>mZ h k
 | .fin _::k=>mZ h k
 | .wu _::k=>mZ h k
def fB {t:Tmp} (f:fn.results= #[.tmp t]) (g:look Y t=some v) (h:R v w):T P fn R (.code .ret::k) Y w:=λa d=>
 wp_ret (mZ (show bodyPost P fn (SQ R) .ret a w from⟨d.1,v,by rw[results_tmp f,pq,d.2.2 t v g];rfl,v,rfl,h⟩) k)
def ia {t u:Tmp} {f:i6} (g:fn.results= #[.tmp t,.tmp u]) (m:look Y t=some v) (n:look Y u=some f) (h:R (.tuple #[v,f]) w):T P fn R (.code .ret::k) Y w:=λa d=>
 wp_ret (mZ (show bodyPost P fn (SQ R) .ret a w from⟨d.1,_,by rw[results_tmp2 g,pq,pq,d.2.2 t v m,d.2.2 u f n];rfl,_,rfl,h⟩) k)
def results3 {t u s:Tmp} (h:fn.results= #[.tmp t,.tmp u,.tmp s]) (tmps:Array i6) (P:Program) (w:i5):
  (results fn tmps).run P w= .ok (.tuple #[tmps.getD t undef,tmps.getD u undef,tmps.getD s undef]) w:=by simp[results,h]
def P4 {t u s:Tmp} {f g:i6} (m:fn.results= #[.tmp t,.tmp u,.tmp s]) (n:look Y t=some v) (x:look Y u=some f) (y:look Y s=some g) (h:R (.tuple #[v,f,g]) w):T P fn R (.code .ret::k) Y w:=λa d=>
 wp_ret (mZ (show bodyPost P fn (SQ R) .ret a w from⟨d.1,_,by rw[results3 m,pq,pq,pq,d.2.2 t v n,d.2.2 u f x,d.2.2 s g y];rfl,_,rfl,h⟩) k)
def Gw (f:fn.results= #[]) (h:R (.tuple #[]) w):T P fn R (.code .ret::k) Y w:=λa d=>
 wp_ret (mZ (show bodyPost P fn (SQ R) .ret a w from⟨d.1,_,results_none f _ _ _,_,rfl,h⟩) k)
def mr (f:fn.results= #[]) (h:R (.tuple #[]) w):T P fn R [] Y w:=λa d=>
 show bodyPost P fn (SQ R) .normal a w from⟨d.1,_,results_none f _ _ _,_,rfl,h⟩
def Sub (e Y:Env):Prop:=∀t v,look e t=some v->look Y t=some v
def ZL:Env->Env->Prop
 |[],_=>True
 |[(t,v)],Y=>look Y t=some v
 |(t,v)::r,Y=>look Y t=some v/\ZL r Y
theorem sub:∀{e Y:Env},ZL e Y->Sub e Y
 |[],_,_=>λt v h=>by cases h
 |[(t',d)],Y,hs=>λt v h=>by
  rw[kj]at h;split at h
  .rename_i e;subst e;injection h with h;subst h;exact hs
  .cases h
 |(t',d)::x::r,Y,hs=>λt v h=>by
  rw[kj]at h;split at h
  .rename_i e;subst e;injection h with h;subst h;exact hs.1
  .exact sub hs.2 t v h
def Fits.sub {e Y:Env} {a:Act} (h:Fits N Y a) (hs:Sub e Y):Fits N e a:=⟨h.1,h.2.1,λt v d=>h.2.2 t v (hs t v d)⟩
def iw {e:Env} (h:T P fn R k e w) (hs:Sub e Y):T P fn R k Y w:=λa d=>h a (d.sub hs)
def pH (N:Nat) (full:Array li):Bool:=Region.noSelect full&&full.all λo=>match o.dst with
 |some d=>decide (d<N)
 |none=>true
def mT (h:pH N full=true):Region.noSelect full=true/\∀(i:Nat) (o:li),full[i]? =some o->∀t,o.dst=some t->t<N:=by
 grind [pH,Array.all_eq_true_iff_forall_mem,Array.mem_of_getElem?]
def gS:i5->Prop:=λ_=>True
def abv (fD fC:i9->Bool) {id:Nat} (g:pH fn.ntmps full=true) (h:xs P fD fC [] gS full (T P fn R k) full.toList Y w):T P fn R (.code (.region id full false)::k) Y w:=λa m=>by
 obtain⟨hs,g⟩:=mT g;refine tC (fD:=fD) (fC:=fC) (hs:=[]) (H:=gS) trivial (K:=λd w'=>∃f,Fits fn.ntmps f d/\T P fn R k f w') (λd w' ⟨f,n,ht⟩=>ht d n) ?_;have:=pP (N:=fn.ntmps) hs g full.toList 0 Y a w iB trivial m h;simpa[xE]using this
def P5 (fD fC:i9->Bool) (hs:ip Nat) (H:i5->Prop) {id:Nat} (hm:P.follows .mixedOrders=true) (g:pH fn.ntmps full=true) (hq:yV fD fC hs full (Region.before full)=true) (hw:H w.drew)
  (h:xs P fD fC hs H full (T P fn R k) full.toList Y w.drew):
  T P fn R (.code (.region id full true)::k) Y w:=λa m=>by
 obtain⟨t,g⟩:=mT g;refine vo (fD:=fD) (fC:=fC) (hs:=hs) (H:=H) hm hw hq (K:=λd w'=>∃f,Fits fn.ntmps f d/\T P fn R k f w') (λd w' ⟨f,n,ht⟩=>ht d n) ?_;have:=pP (N:=fn.ntmps) t g full.toList 0 Y a w.drew iB hw m h;simpa[xE]using this
def VR {α:Type} (E:α->Env) (d:α->i5->Prop) (f:α->Nat) (n:Nat):Env->i5->Prop:=λY w=>∃y,Sub (E y) Y/\d y w/\f y<n
def gC {α:Type} (E:α->Env) (f:α->i5->Prop) (d:α->Nat) {c:Code} (g:α) (h0:Sub (E g) Y) (m:f g w)
  (round:∀x w,f x w->T P fn R (.code c:: .fin (VR E f d (d x))::k) (E x) w):T P fn R (.code (.loop c)::k) Y w:=λa t=>by
 refine wp_loop_ghost (λn a w=>∃x,d x=n/\Fits fn.ntmps (E x) a/\f x w) (d g) ⟨g,rfl,t.sub h0,m⟩ ?_;rintro n a w ⟨x,rfl,u,m⟩;refine wp_mono (round x w m a u) ?_;intro e C w' hq;cases e with
 |normal=>obtain⟨F,v,y,hs,B,fY⟩:=hq;exact⟨d y,fY,y,rfl,v.sub hs,B⟩
 |exit id=>exact hq
 |goto l=>exact hq
 |ret=>exact hq
 |panic D=>exact hq
 |outgrown=>exact hq
def zS:Code->ip It
 | .seq x y=>zS x++[.code y]
 | .skip=>[]
 |c=>[.code c]
def after (c:Code) (l:Nat):Option (ip It):=match findLabel c l with
 |some r=>some (zS r)
 |none=>none
theorem zk {N:Nat} {Q:Exit->Act->i5->Prop} {a:Act} {w:i5}:∀(c:Code) (k:ip It),HC P N Q (zS c++k) .normal a w->c.wp P (HC P N Q k) a w
 | .seq x y,k,h=>by
  refine wp_seq ?_;rw[zS,kF]at h;exact zk x (.code y::k) h
 | .skip,k,h=>wp_skip h
 | .region ..,k,h=>h
 | .cond ..,k,h=>h
 | .block ..,k,h=>h
 | .loop ..,k,h=>h
 | .rangeFunc ..,k,h=>h
 | .exit ..,k,h=>h
 | .scope ..,k,h=>h
 | .label ..,k,h=>h
 | .goto ..,k,h=>h
 | .ret,k,h=>h
 | .refuse ..,k,h=>h
def qS {c:Code} {Q:Exit->Act->i5->Prop} {a:Act} {w:i5} (t:Nat->Nat->Act->i5->Prop) (H:∀l n a w,t l n a w->∃ii,findLabel c l=some ii)
  (first:c.wp P (λe a w=>match e with
   | .goto l=>∃n,t l n a w
   |e=>Q e a w) a w)
  (pass:∀n l ii a w,findLabel c l=some ii->t l n a w->ii.wp P (λe a w=>match e with
   | .goto l=>∃m,m<n/\t l m a w
   |e=>Q e a w) a w):(Code.scope c).wp P Q a w:=by
 intro b k cs;have I:∀l ii,findLabel c l=some ii->gotoIn l (.inScope c::k)=some (.code ii:: .inScope c::k):=by grind [gotoIn]
 have key:∀n l ii a w,findLabel c l=some ii->t l n a w->∃e G w',Q e G w'/\Arrives P (lone (b.at a (.code ii:: .inScope c::k)) cs w) b k cs e G w':=by
  intro n
  induction n using Nat.strongRecOn with
  | _ n M=>
   intro l ii a w L K;obtain⟨e,d,g,hq,f⟩:=pass n l ii a w L K b (.inScope c::k) cs;cases e with
   |normal=>exact⟨.normal,d,g,hq,Steps.trans f (.one step_inScope)⟩
   |exit id=>exact⟨.exit id,d,g,hq,λE hk=>f E (by simp[exitTo,hk])⟩
   |goto l'=>
    obtain⟨m,hm,u⟩:=hq;obtain⟨x,v⟩:=H _ _ _ _ u;obtain⟨B,y,F,D,C⟩:=M m hm l' x d g v u;exact⟨B,y,F,D,.of_steps (f _ (I l' x v)) C⟩
   |ret=>exact⟨_,d,g,hq,f⟩
   |panic J=>exact⟨_,d,g,hq,f⟩
   |outgrown=>exact⟨_,d,g,hq,f⟩
 obtain⟨e,d,g,hq,f⟩:=first b (.inScope c::k) cs
 cases e with
 |normal=>exact⟨.normal,d,g,hq,.head step_scope (Steps.trans f (.one step_inScope))⟩
 |exit id=>exact⟨.exit id,d,g,hq,λE hk=> .head step_scope (f E (by simp[exitTo,hk]))⟩
 |goto l'=>
  obtain⟨n,u⟩:=hq;obtain⟨x,v⟩:=H _ _ _ _ u;obtain⟨B,y,F,D,C⟩:=key n l' x d g v u;exact⟨B,y,F,D,.of_steps (.head step_scope (f _ (I l' x v))) C⟩
 |ret=>exact⟨_,d,g,hq,.of_steps (.one step_scope) f⟩
 |panic J=>exact⟨_,d,g,hq,.of_steps (.one step_scope) f⟩
 |outgrown=>exact⟨_,d,g,hq,.of_steps (.one step_scope) f⟩
theorem kQ {N:Nat} {Q:Exit->Act->i5->Prop} {m n:Nat->Env->i5->Prop} (f:∀l Y w,m l Y w->n l Y w):∀(k1 k:ip It) (e:Exit) (a:Act) (w:i5),HC P N Q (k1++ .wu m::k) e a w->HC P N Q (k1++ .wu n::k) e a w
 |[],k,e,a,w,h=>by
  cases e with
  |goto l=>obtain⟨Y,u,v⟩:=h;exact⟨Y,u,f _ _ _ v⟩
  |normal=>exact h
  |exit id=>exact h
  |ret=>exact h
  |panic g=>exact h
  |outgrown=>exact h
 | .code c::k1,k,e,a,w,h=>by
  have d:=kQ (N:=N) (Q:=Q) f k1 k;cases e with
  |normal=>exact wp_mono (c:=c) h d
  |goto l=>exact d _ a w h
  |exit id=>exact d _ a w h
  |ret=>exact d _ a w h
  |panic g=>exact d _ a w h
  |outgrown=>exact d _ a w h
 | .gO i::k1,k,e,a,w,h=>by
  have d:=kQ (N:=N) (Q:=Q) f k1 k;cases e with
  |exit id=>
   have x:Exit.inBlock i (HC P N Q (k1++ .wu m::k)) (.exit id) a w:=h;show Exit.inBlock i (HC P N Q (k1++ .wu n::k)) (.exit id) a w
   grind [Exit.inBlock]
  |normal=>exact d _ a w h
  |goto l=>exact d _ a w h
  |ret=>exact d _ a w h
  |panic g=>exact d _ a w h
  |outgrown=>exact d _ a w h
 | .fin t::k1,k,e,a,w,h=>by
  have d:=kQ (N:=N) (Q:=Q) f k1 k;cases e with
  |normal=>exact h
  |exit id=>exact d _ a w h
  |goto l=>exact d _ a w h
  |ret=>exact d _ a w h
  |panic g=>exact d _ a w h
  |outgrown=>exact d _ a w h
 | .wu t::k1,k,e,a,w,h=>by
  have d:=kQ (N:=N) (Q:=Q) f k1 k;cases e with
  |goto l=>exact h
  |normal=>exact d _ a w h
  |exit id=>exact d _ a w h
  |ret=>exact d _ a w h
  |panic g=>exact d _ a w h
  |outgrown=>exact d _ a w h
def BB (L:Nat->Nat->Env->i5->Prop) (n:Nat):Nat->Env->i5->Prop:=λl Y w=>∃m,m<n/\L l m Y w
def Er (L:Nat->Nat->Env->i5->Prop):Nat->Env->i5->Prop:=λl Y w=>∃m,L l m Y w
def Jj {c:Code} (L:Nat->Nat->Env->i5->Prop) (K:∀l n Y w,L l n Y w->∃ys,after c l=some ys)
  (I:∀n l ys Y w,after c l=some ys->L l n Y w->
   (∀l' u g w',after c l'=some u->BB L n l' g w'->T P fn R (u++ .wu (BB L n)::k) g w')->T P fn R (ys++ .wu (BB L n)::k) Y w)
  (first:(∀l ys Y w,after c l=some ys->Er L l Y w->T P fn R (ys++ .wu (Er L)::k) Y w)->T P fn R (.code c:: .wu (Er L)::k) Y w):
  T P fn R (.code (.scope c)::k) Y w:=by
 have key:∀n l ys Y w,after c l=some ys->L l n Y w->T P fn R (ys++ .wu (BB L n)::k) Y w:=by
  intro n
  induction n using Nat.strongRecOn with
  |_ n G=>
   intro l ys Y w t f;refine I n l ys Y w t f ?_;rintro l' u g w' x ⟨m,hm,F⟩ a d;exact kQ (λH C J ⟨m',M,v⟩=>⟨m',fy,v⟩) u k _ a w' (G m hm l' u g w' x F a d)
 have D:=first (λl ys Y w t ⟨m,f⟩ a d=>kQ (λH C J ⟨m',_,v⟩=>⟨m',v⟩) ys k _ a w (key m l ys Y w t f a d))
 intro a t;refine qS (λl n a w=>∃Y,Fits fn.ntmps Y a/\L l n Y w) ?_ ?_ ?_
 .grind [after]
 .refine wp_mono (D a t) ?_;intro e y w' hq;cases e with
  |goto l=>obtain⟨g,d,m,f⟩:=hq;grind
  |normal=>exact hq
  |exit id=>exact hq
  |ret=>exact hq
  |panic B=>exact hq
  |outgrown=>exact hq
 .rintro n l ii a w d ⟨Y,E,f⟩;have x:after c l=some (zS ii):=by unfold after;rw[d]
  refine wp_mono (zk ii (.wu (BB L n)::k) (key n l _ Y w x f a E)) ?_;intro e y w' hq;cases e with
  |goto l=>obtain⟨g,d,m,hm,f⟩:=hq;grind
  |normal=>exact hq
  |exit id=>exact hq
  |ret=>exact hq
  |panic B=>exact hq
  |outgrown=>exact hq
def At {α:Type} (l0:Nat) (E:α->Env) (d:α->i5->Prop) (f:α->Nat):Nat->Nat->Env->i5->Prop:=λl n Y w=>l=l0/\∃x,Sub (E x) Y/\d x w/\f x=n
def iq {α:Type} {c:Code} {ys:ip It} (l0:Nat) (t:after c l0=some ys) (E:α->Env) (d:α->i5->Prop) (f:α->Nat)
  (u:∀x w,d x w->T P fn R (ys++ .wu (BB (At l0 E d f) (f x))::k) (E x) w)
  (first:(∀x w,d x w->T P fn R (ys++ .wu (Er (At l0 E d f))::k) (E x) w)->T P fn R (.code c:: .wu (Er (At l0 E d f))::k) Y w):
  T P fn R (.code (.scope c)::k) Y w:=by
 refine Jj (At l0 E d f) (λl n Y w ⟨he,_⟩=>⟨ys,he▸t⟩) ?_ ?_
 .rintro n l v Y w g ⟨rfl,x,hs,m,rfl⟩ _;rw[t]at g;injection g with g;subst g
  exact iw (u x w m) hs
 .intro h;refine first λx w m=>?_
  exact h l0 ys (E x) w t ⟨f x,rfl,x,λ_ _ h=>h,m,rfl⟩
def DG {args:Array i6} (d:args.size<=N) {e:Env} (he:∀t v,look e t=some v->args[t]? =some v):Fits N e {tmps:=args++Array.replicate (N-args.size) undef,defers:=[]}:=
 ⟨rfl,by simp;omega,fM⟩
def rI:Nat->ip i6->Env
 |_,[]=>[]
 |n,v::r=>(n,v)::rI (n+1) r
theorem rz:∀(l:ip i6) (n t:Nat) (v:i6),look (rI n l) t=some v->n<=t/\l[t-n]? =some v
 |[],n,t,v,h=>by cases h
 | u::r,n,t,v,h=>by
  rw[rI,kj]at h;split at h
  .grind
  .rename_i e;have:=rz r (n+1) t v h
   grind
def vS {f:FuncId} {c:Code} {l:ip i6} {w:i5} (g:P.funcs[f]? =some fn) (d:fn.body=some c) (n:(decide (l.length<=fn.ntmps))=true) (h:T P fn R [.code c] (rI 0 l) w):fQ P f l.toArray w R:=
 calls_of_wp g d (h _ (DG (by simpa using n) λt v m=>by simpa using(rz l 0 t v m).2))
def gD {f:FuncId} {c:Code} {w:i5} (g:P.funcs[f]? =some fn) (d:fn.body=some c) (m:decide (1<=fn.ntmps)=true) (h:T P fn R [.code c] [(0,v0)] w):fQ P f #[v0] w R:=vS (l:=[v0]) g d m h
def gP {f:FuncId} {c:Code} {w:i5} (g:P.funcs[f]? =some fn) (d:fn.body=some c) (m:decide (2<=fn.ntmps)=true) (h:T P fn R [.code c] [(0,v0),(1,v1)] w):fQ P f #[v0,v1] w R:=vS (l:=[v0,v1]) g d m h
def kg {f:FuncId} {c:Code} {w:i5} (g:P.funcs[f]? =some fn) (d:fn.body=some c) (m:decide (3<=fn.ntmps)=true) (h:T P fn R [.code c] [(0,v0),(1,v1),(2,v2)] w):fQ P f #[v0,v1,v2] w R:=vS (l:=[v0,v1,v2]) g d m h
def xA {f:FuncId} {c:Code} {v3:i6} {w:i5} (g:P.funcs[f]? =some fn) (d:fn.body=some c) (m:decide (4<=fn.ntmps)=true) (h:T P fn R [.code c] [(0,v0),(1,v1),(2,v2),(3,v3)] w):fQ P f #[v0,v1,v2,v3] w R:=vS (l:=[v0,v1,v2,v3]) g d m h
def Ao {f:FuncId} {c:Code} {v3 v4:i6} {w:i5} (g:P.funcs[f]? =some fn) (d:fn.body=some c) (m:decide (5<=fn.ntmps)=true) (h:T P fn R [.code c] [(0,v0),(1,v1),(2,v2),(3,v3),(4,v4)] w):fQ P f #[v0,v1,v2,v3,v4] w R:=vS (l:=[v0,v1,v2,v3,v4]) g d m h
end
def bit (m t:Nat):Bool:=Nat.beq (Nat.mod (Nat.shiftRight m t) 2) 1
def get:ip (Nat×Nat)->Nat->Option Nat
 |[],_=>none
 |(k,v)::r,t=>match Nat.beq k t with
  |true=>some v
  |false=>get r t
theorem get_mem:∀{l:ip (Nat×Nat)} {t v:Nat},get l t=some v->(t,v)∈l
 |[],_,_,h=>by cases h
 |(k,u)::r,t,v,h=>by
  simp only[get]at h;split at h
  .rename_i d;injection h with h;subst h;rw[jq d];simp
  .exact qC _ (get_mem h)
def abX:Nat:=2513963986864236956170129687163596148902381091361073758323167770697830755638790058150351430906294392691880973409966134535078853027239981864956309190737920
def abW:Nat:=46517678354918840995156723704832292438377789261792566415457653316005192560902964327525762145669969159680672562961980768623707775838453772
def afe:Nat:=314245498358029619521266210895449518612797636420134219790395971337228844454848757268793928863286799086485121676245766816884856628404997733119538648580192
def aad:Nat:=1329227995784915872903807060280344576
def aaF:Nat:=300613450595050653169853516389035139504087366260264943450533244356122755299740472493588087659095171745936576512
def kindOf (t:Nat):Option kw:=match bit abW t with
 |true=>some .i64
 | false=>match bit aaF t with
  |true=>some .u64
  | false=>match bit afe t with
   |true=>some .u8
   | false=>match bit abX t with
    |true=>some .i32
    |false=>match bit aad t with
     |true=>some .u32
     |false=>none
def fD (t:Nat):Bool:=(kindOf t).isSome
def abo:Nat:=3584
def fC (t:Nat):Bool:=bit abo t
def aba:Nat:=16655674401832616816352146737316301720101354971609760726390703334854811625127240934751198788878740047095425267480031951121885243222227083991843030579781246
def one (t:Nat):Bool:=bit aba t
def C6:Nat:=26373312190585128360289861984930465443556881129542888232976062048329841926472156904889923614139981944969731722183518149708487059246408663461376786432
def WJ:ip (Nat×Nat):=[(700,0),(701,1),(702,2),(703,3),(800,0),(801,1),(802,2),(803,3),(1300,0),(1301,1),(1400,0),(1401,1),(1800,0),(1900,0),(2500,0),(2501,1),(2600,0),(2601,1),(3300,0),(3301,1),(3302,2),(3303,3),(3304,4),(3305,5),(3400,0),(3401,1),(3402,2),(3403,3),(3404,4),(3405,5),(3600,0),(3601,1),(3602,7),(3603,8),(3604,9),(3605,10),(3606,11),(3700,0),(3701,1),(3702,7),(3703,8),(3704,9),(3705,10),(3706,11),(3800,0),(3801,1),(3900,0),(3901,1),(4800,0),(4801,1),(4900,0),(4901,1),(6700,0),(6701,1),(6800,0),(6801,1),(6900,0),(6901,1),(6902,2),(7000,0),(7001,1),(7002,2),(8200,0),(8201,1),(8202,2),(8203,3),(8300,0),(8301,1),(8302,2),(8303,3),(8700,0),(8701,1),(8702,2),(8703,3),(8704,4),(8800,0),(8801,1),(8802,2),(8803,3),(8804,4),(13400,0),(13401,1),(13402,2),(13403,3),(13500,0),(13501,1),(13502,2),(13503,3),(13700,0),(13701,1),(13702,2),(13703,3),(13800,0),(13801,1),(13802,2),(13803,3),(14800,0),(14801,1),(14900,0),(14901,1),(17000,0),(17001,1),(17002,2),(17003,14),(17100,0),(17101,1),(17102,2),(17103,14),(18100,0),(18101,1),(18102,2),(18200,0),(18201,1),(18202,2),(18600,0),(18700,0),(19600,0),(19601,8),(19700,0),(19701,8),(21200,0),(21300,0),(26100,0),(26101,1),(26102,2),(26103,3),(30100,0),(30101,1),(30200,0),(30201,1),(32400,0),(32401,1),(32500,0),(32501,1),(32600,0),(32601,1),(32602,2),(32603,3),(32604,4),(32700,0),(32701,1),(32702,2),(32703,3),(32704,4),(41200,0),(41201,1),(41202,2),(41600,0),(41601,1),(41700,0),(41701,1),(42100,0),(42101,1),(42102,2),(42200,0),(42201,1),(42202,2),(42600,0),(42601,1),(42602,2),(42700,0),(42701,1),(42702,2),(44200,0),(44201,1),(44300,0),(44301,1),(45200,0),(45201,1),(45300,0),(45301,1),(46400,0),(46401,1),(46500,0),(46501,1),(46800,0),(46801,13),(46900,0),(46901,13),(47500,0),(47501,1),(47502,2),(47503,3),(47504,4),(47600,0),(47601,1),(47602,2),(47603,3),(47604,4),(48100,0),(48101,1),(48102,2),(48200,0),(48201,1),(48202,2),(49400,0),(49500,0),(50000,0),(50001,1),(50002,2),(50003,3),(50100,0),(50101,1),(50102,2),(50103,3),(51000,0),(51001,1),(51002,2),(51003,3),(51004,4),(51005,5),(51006,6),(51007,7),(51008,8),(51009,9),(51010,10),(51100,0),(51101,1),(51102,2),(51103,3),(51104,4),(51105,5),(51106,6),(51107,7),(51108,8),(51109,9),(51110,10)]
def fo (s f:Nat):Option Nat:=get WJ (s*100+f)
def aau:ip (Nat×Nat):=[(22,1),(23,2),(24,12),(31,2),(32,3),(35,2),(51,1),(74,2),(78,4),(86,1),(117,15),(129,4),(154,1),(177,3),(205,4),(238,1),(248,1),(259,1),(260,4),(282,1),(300,2),(411,3),(474,1)]
def es (t:Nat):Option Nat:=get aau t
def Vp:ip (Nat×Nat):=[(121,8),(122,8),(195,8),(200,8),(233,5),(310,4),(311,4),(313,2),(320,3),(460,24),(463,256),(466,16),(467,13),(485,20),(486,65),(498,32),(499,64)]
def U6:ip (Nat×Nat):=[(121,1),(122,1),(195,1),(200,1),(233,1),(310,1),(311,4),(313,1),(320,1),(460,1),(463,1),(466,2),(467,1),(485,1),(486,1),(498,1),(499,1)]
def kA:ip (Nat×Nat):=[(7,4),(8,4),(13,2),(14,2),(18,1),(19,1),(25,2),(26,2),(33,6),(34,6),(36,12),(37,12),(38,2),(39,2),(48,2),(49,2),(67,2),(68,2),(69,3),(70,3),(82,4),(83,4),(87,6),(88,6),(121,8),(122,8),(134,4),(135,4),(137,4),(138,4),(148,2),(149,2),(170,15),(171,15),(181,3),(182,3),(186,1),(187,1),(195,8),(196,9),(197,9),(200,8),(212,2),(213,2),(233,5),(261,4),(301,2),(302,2),(310,4),(311,16),(313,2),(320,3),(324,2),(325,2),(326,5),(327,5),(412,3),(416,2),(417,2),(421,3),(422,3),(426,3),(427,3),(442,2),(443,2),(452,2),(453,2),(460,24),(463,256),(464,2),(465,2),(466,32),(467,13),(468,26),(469,26),(475,5),(476,5),(481,3),(482,3),(485,20),(486,65),(494,1),(495,1),(498,32),(499,64),(500,4),(501,4),(502,0),(503,0),(504,0),(510,11),(511,11)]
def FC (P:Program) (t:Nat):Bool:=match kindOf t with
 |none=>true
 |some k=>match P.underlying t with
  |some (.int d)=>k==d
  |_=>false
def Hy:(List.range 1000).all (FC prog)=true:=by kernel_rfl
def I5 (t:Nat) (h:t<1000):FC prog t=true:=ld.1 Hy t (x2.2 h)
def Kb (P:Program) (t:Nat):Bool:=!one t||(match P.underlying t,P.info? t with
  |some (.struct _),_|some (.array _ _),_=>false
  |some _,some i=>i.size==1
  |_,_=>false)
def KY:(List.range 1000).all (Kb prog)=true:=by kernel_rfl
def OJ (t:Nat) (h:t<1000):Kb prog t=true:=ld.1 KY t (x2.2 h)
def Jr (P:Program) (t:Nat):Bool:=!bit C6 t||(match P.underlying t with
 |some (.pointer _)=>true
 |_=>false)
def Jn:(List.range 1000).all (Jr prog)=true:=by kernel_rfl
def M3 (t:Nat) (h:t<1000):Jr prog t=true:=ld.1 Jn t (x2.2 h)
def Pa (P:Program) (x:Nat×Nat):Bool:=match P.underlying (x.1/100)with
 | some (.struct fs)=>match fs[x.1% 100]? with
  |some f=>f.offset==x.2&&(match P.info? f.type with
   |some i=>i.size !=0
   |none=>false)
  |none=>false
 |_=>false
def MS:WJ.all (Pa prog)=true:=by kernel_rfl
def V2 (P:Program) (x:Nat×Nat):Bool:=match P.underlying x.1 with
 |some (.slice e)=>match P.info? e with
  |some i=>i.size==x.2
  |none=>false
 |_=>false
def PS:aau.all (V2 prog)=true:=by kernel_rfl
def JD (P:Program) (t:Nat):Bool:=!fC t||(match P.underlying t with
 |some .string=>true
 |_=>false)
def KV:(List.range 1000).all (JD prog)=true:=by kernel_rfl
def N9 (t:Nat) (h:t<1000):JD prog t=true:=ld.1 KV t (x2.2 h)
def R5 (P:Program) (x:Nat×Nat):Bool:=match P.underlying x.1,P.info? x.1 with
 |some (.struct _),some i|some (.array _ _),some i=>i.size==x.2
 |_,_=>false
def MP:kA.all (R5 prog)=true:=by kernel_rfl
def RF (P:Program) (x:Nat×Nat):Bool:=match P.underlying x.1 with
 |some (.array n e)=>n==x.2&&decide (1<n)&&(match P.info? e,get U6 x.1 with
  |some i,some z=>i.size==z
  |_,_=>false)
 |_=>false
def NZ:Vp.all (RF prog)=true:=by kernel_rfl
def qR:Nat:=199791907243414200855478930058352006312749790159085562926518577361169001243261700339927444808198681762310801062810584595306558395914795331327361020
def Jc (P:Program) (f:Nat):Bool:=!bit qR f||(match P.funcs[f]? with
 |some fn=>fn.body.isSome&&fn.name != "runtime.NumGoroutine"
 |none=>false)
def KM:(List.range 1000).all (Jc prog)=true:=by kernel_rfl
def OF (t:Nat) (h:t<1000):Jc prog t=true:=ld.1 KM t (x2.2 h)
def mixed:prog.follows .mixedOrders=true:=by kernel_rfl
section
def qE {m t n:Nat} (hm:m<2^n) (h:bit m t=true):t<n:=by
 rcases p9 t n with fY|d
 .exact fY
 .exfalso;have h1:2^n<=2^t:=A8 fU d;have f:m/2^t=0:=LV fy
  simp_all [bit,Nat.shiftRight,L7]
def iN {t:Nat} (h:kindOf t=some k):prog.underlying t=some (.int k):=by
 have fY:t<1000:=by
  unfold kindOf at h;split at h
  .rename_i d;exact qE (by decide+kernel) d
  .split at h
   .rename_i d;exact qE (by decide+kernel) d
   .split at h
    .rename_i d;exact qE (by decide+kernel) d
    .split at h
     .rename_i d;exact qE (by decide+kernel) d
     .split at h
      .rename_i d;exact qE (by decide+kernel) d
      .cases h
 have:=I5 t fY
 grind [FC]
theorem nj {t:Nat} (h:one t=true):(∃d,prog.underlying t=some d/\(∀fs,d≠ .struct fs)/\∀n e,d≠ .array n e)/\∃i,prog.info? t=some i/\i.size=1:=by
 have fY:t<1000:=qE (by decide+kernel) h;have:=OJ t fY;unfold Kb at this;rw[h]at this;simp only[DP,CQ]at this;split at this<;>simp_all
def Vs {s off:Nat} (d:f<100) (h:fo s f=some off):∃fs fd i,prog.underlying s=some (.struct fs)/\fs[f]? =some fd/\fd.offset=off/\prog.info? fd.type=some i/\i.size≠0:=by
 have:=ld.1 MS _ (get_mem h)
 grind [Pa]
def mY {t:Nat} (h:es t=some z):∃e i,prog.underlying t=some (.slice e)/\prog.info? e=some i/\i.size=z:=by
 have:=ld.1 PS _ (get_mem h)
 grind [V2]
theorem h7 {t:Nat} (h:fC t=true):prog.underlying t=some .string:=by
 have fY:t<1000:=qE (by decide+kernel) h;have:=N9 t fY
 grind [JD,Bool.not_true]
def FN {t:Nat} (h:bit C6 t=true):prog.underlying t=some (.pointer (prog.pointee t)):=by
 have fY:t<1000:=qE (by decide+kernel) h;have:=M3 t fY
 grind [Jr,Bool.not_true,Program.pointee]
def HR (h:bit qR f=true):∃fn,prog.funcs[f]? =some fn/\fn.body.isSome=true/\(fn.name== "runtime.NumGoroutine")=false:=by
 have fY:f<1000:=qE (by decide+kernel) h;have:=OF f fY
 grind [Jc,Bool.not_true]
variable {hs:ip Nat} {H:i5->Prop} {full:Array li} {K:Env->i5->Prop} {ii:ip li} {Y:Env} {w:i5} {d:Tmp} {dst:Option Tmp} {R:i9} {pos:String} {af:Array Edge}
def rR (Y:Env):Op->Option i6
 | .move x=>gh Y x
 | .assign x=>gh Y x
 | .pick c a b=>match gh Y a,gh Y b,gh Y c with
  |some va,some _,some (.bool true)=>some va
  |some _,some d,some (.bool false)=>some d
  |_,_,_=>none
 | .nilCheck x=>match gh Y x with
  |some (.pointer (some a))=>some (.pointer (some a))
  |_=>none
 | .fieldAddr s x f=>match gh Y x,fo s f,Nat.blt f 100 with
  |some (.pointer (some ⟨b,o,none⟩)),some off,true=>some (.pointer (some ⟨b,o+off,none⟩))
  |_,_,_=>none
 | .extract x i=>match gh Y x with
  |some (.tuple vs)=>match vs[i]? with
   |some v=>some v
   |none=>none
  |_=>none
 | .unOp .not _ x=>match gh Y x with
  |some (.bool true)=>some (.bool false)
  |some (.bool false)=>some (.bool true)
  |_=>none
 | .call {callee:= .builtin .len,args:=⟨[x]⟩,argTypes:=⟨[t]⟩}=>match gh Y x with
  |some (.slice _ n _)=>match es t with
   |some _=>some (.I n)
   |none=>none
  |some (.string s)=>match fC t with
   |true=>some (.I s.size)
   |false=>none
  |_=>none
 | .binOp .eql t x (.const (.pointer none)) _=>match gh Y x,bit C6 t with
  |some (.pointer (some _)),true=>some (.bool false)
  |some (.pointer none),true=>some (.bool true)
  |_,_=>none
 | .binOp .neq t x (.const (.pointer none)) _=>match gh Y x,bit C6 t with
  |some (.pointer (some _)),true=>some (.bool true)
  |some (.pointer none),true=>some (.bool false)
  |_,_=>none
 |_=>none
theorem fR (h:gh Y x=some v):ev Y x=v:=by simp[ev,h]
theorem DK (v:i6):gh Y (.const v)=some v:=rfl
def FU (v:i6):ev Y (.const v)=v:=rfl
def J5 {o:li} (h:rR Y o.op=some v):gd Y o=true/\cls fD fC o.op= .p/\∀w',(execOp (ev Y) o).run prog w'= .ok (.value v) w':=by
 obtain⟨dst,op,R,pos,af,g⟩:=o;dsimp only at h;unfold rR at h;split at h
 .rename_i x;exact⟨by simp[gd,Op.operands,h],rfl,by simp_all [execOp,fR]⟩
 .rename_i x;exact⟨by simp[gd,Op.operands,h],rfl,by simp_all [execOp,fR]⟩
 .rename_i c a b;split at h
  .exact y50
  .exact y50
  .cases h
 .rename_i x;split at h
  .rename_i a d;injection h with h;subst h
   exact⟨by grind [gd,Op.operands],rfl,by simp_all [execOp,fR]⟩
  .cases h
 .rename_i s x f;split at h
  .rename_i b o off d y fY;injection h with h;subst h
   obtain⟨fs,fd,i,h1,D,h3,E,F⟩:=Vs (by simpa using fY) y;refine⟨by grind [gd,Op.operands],rfl,λw'=>?_⟩
   simp_all [Addr.add,nE,execOp,Instr.fieldAt,Instr.sureAddr,fieldPlace,sizeOf,typeInfo,fR,run_underlying]
  .cases h
 .rename_i x i;split at h
  .rename_i vs d;split at h
   .rename_i H G;injection h with h;subst h
    exact⟨by grind [gd,Op.operands],rfl,by simp_all [execOp,Instr.extract,fR]⟩
   .cases h
  .cases h
 .rename_i t x;split at h
  .rename_i d;injection h with h;subst h
   exact⟨by grind [gd,Op.operands],rfl,by simp_all [execOp,Op.unary,fR]⟩
  .rename_i d;injection h with h;subst h
   exact⟨by grind [gd,Op.operands],rfl,by simp_all [execOp,Op.unary,fR]⟩
  .cases h
 .rename_i x t;split at h
  .rename_i A n c d;split at h
   .rename_i z u;injection h with h;subst h
    obtain⟨e,i,h1,_,_⟩:=mY u;exact⟨by grind [gd,Op.operands,Call.operands],rfl,λw'=>by simp[execOp,resolve,invoke,builtin,fR d,Builtin.len_,run_underlying h1,goInt]⟩
   .cases h
  .rename_i s d;split at h
   .rename_i u;injection h with h;subst h
    exact⟨by grind [gd,Op.operands,Call.operands],rfl,λw'=>by simp[execOp,resolve,invoke,builtin,fR d,Builtin.len_,run_underlying (h7 u),goInt]⟩
   .cases h
  .cases h
 .rename_i t x C;split at h
  .rename_i a d m;injection h with h;subst h
   exact y45
  .rename_i d m;injection h with h;subst h
   exact y45
  .cases h
 .rename_i t x C;split at h
  .rename_i a d m;injection h with h;subst h
   exact y46
  .rename_i d m;injection h with h;subst h
   exact y46
  .cases h
 .cases h
def gW {o:li} (d:o.guard=none) (f:gd Y o=true) (h:wV prog H (ja fD fC hs o) (execOp (ev Y) o) w (λv w'=>xs prog fD fC hs H full K ii (put Y o.dst v) w')):
  xs prog fD fC hs H full K (o::ii) Y w:=⟨true,by rw[d];rfl,λ_=>⟨f,h⟩,λe=>by cases e⟩
def lB (h:K Y w):xs prog fD fC hs H full K [] Y w:=h
def xp {op:Op} (m:rR Y op=some v) (h:xs prog fD fC hs H full K ii ((d,v)::Y) w):xs prog fD fC hs H full K (⟨some d,op,R,pos,af,none⟩::ii) Y w:=by
 obtain⟨h1,f,h3⟩:=J5 (o:=⟨some d,op,R,pos,af,none⟩) m;refine gW fx h1 ?_;have g:ja fD fC hs ⟨some d,op,R,pos,af,none⟩= .p:=by unfold ja;rw[f]
 rw[g];exact⟨v,h3,h⟩
def xgy {op:Op} {g:Nat×Bool} (f:gv full Y (some g)=some true) (h:xs prog fD fC hs H full K (⟨dst,op,R,pos,af,none⟩::ii) Y w):xs prog fD fC hs H full K (⟨dst,op,R,pos,af,some g⟩::ii) Y w:=by
 obtain⟨m,d,h1,_⟩:=h;injection d with d
 subst d;exact⟨true,f,λ_=>h1 fx,λe=>by cases e⟩
def xgn {op:Op} {g:Nat×Bool} (d:gv full Y (some g)=some false) (h:xs prog fD fC hs H full K ii (put Y dst undef) w):xs prog fD fC hs H full K (⟨dst,op,R,pos,af,some g⟩::ii) Y w:=
 ⟨false,d,λe=>(by cases e),λ_=>h⟩
def ur {fn:Func} {d:i6->i5->Prop} {k:ip It} {id:Nat} (f:pH fn.ntmps l.toArray=true) (h:xs prog fD fC [] gS l.toArray (T prog fn d k) l Y w):T prog fn d (.code (.region id l.toArray false)::k) Y w:=
 abv fD fC f h
def oD {fn:Func} {d:i6->i5->Prop} {k:ip It} {id:Nat} (f:pH fn.ntmps l.toArray=true) (hq:yV fD fC [] l.toArray (Region.before l.toArray)=true) (h:xs prog fD fC [] gS l.toArray (T prog fn d k) l Y w.drew):
  T prog fn d (.code (.region id l.toArray true)::k) Y w:=P5 fD fC [] gS mixed f hq trivial h
def lk {fn:Func} {d:i6->i5->Prop} {k:ip It} {id:Nat} (hs:ip Nat) (H:i5->Prop) (f:pH fn.ntmps l.toArray=true) (hq:yV fD fC hs l.toArray (Region.before l.toArray)=true) (hw:H w.drew)
  (h:xs prog fD fC hs H l.toArray (T prog fn d k) l Y w.drew):
  T prog fn d (.code (.region id l.toArray true)::k) Y w:=P5 fD fC hs H mixed f hq hw h
def jE {op:BinOp} {t:i9} {f g:i6} (B:gh Y x=some f) (C:gh Y y=some g) (n:eqGuard op t x y f g=pure ()) (u:∀w',(binOp op t f g).run prog w'= .ok v w')
  (h:xs prog fD fC hs H full K ii ((d,v)::Y) w):xs prog fD fC hs H full K (⟨some d,.binOp op t x y m,R,pos,af,none⟩::ii) Y w:=by
 refine gW fx (by grind [gd,Op.operands]) ⟨v,λw'=>?_,h⟩
 simp_all [execOp,fR]
def arI (op:BinOp) (a b:Int):Option Int:=match op with
 | .add=>some (a+b)
 | .sub=>some (a-b)
 | .mul=>some (a*b)
 |_=>none
def xai {op:BinOp} {t:i9} (g:gh Y x=some (.I a)) (m:gh Y y=some (.I b)) (f:arI op a b=some r) (h1: -9223372036854775808<=r) (u:r<=9223372036854775807)
  (h:xs prog fD fC hs H full K ii ((d,.I r)::Y) w):xs prog fD fC hs H full K (⟨some d,.binOp op t x y n,R,pos,af,none⟩::ii) Y w:=by
 have hw:IntKind.i64.wrap r=r:=CY _ fy;refine jE g m (eqGuard_at_int ..) (λw'=>?_) h;unfold arI at f;split at f<;>first|simp_all [binOp,Op.intArith]|cases f
theorem u64_in (r:Int) (h1:0<=r) (d:r<=18446744073709551615):IntKind.u64.wrap r=r:=by
 grind [IntKind.wrap,IntKind.signed,IntKind.bits]
def Zq {op:BinOp} {t:i9} (m:gh Y x=some (.int .u64 a)) (n:gh Y y=some (.int .u64 b)) (f:arI op a b=some r) (h1:0<=r) (g:r<=18446744073709551615)
  (h:xs prog fD fC hs H full K ii ((d,.int .u64 r)::Y) w):xs prog fD fC hs H full K (⟨some d,.binOp op t x y u,R,pos,af,none⟩::ii) Y w:=by
 have hw:IntKind.u64.wrap r=r:=u64_in r h1 g;refine jE m n (eqGuard_at_int ..) (λw'=>?_) h;unfold arI at f;split at f<;>first|simp_all [binOp,Op.intArith]|cases f
def Xx (op:BinOp) (a b:Int):Option Int:=match op with
 | .quo=>some (a/b)
 | .rem=>some (a% b)
 |_=>none
def xdv {op:BinOp} {t:i9} (g:gh Y x=some (.int k a)) (m:gh Y y=some (.int k b)) (f:Xx op a b=some r) (h1:0<=a) (D:0<b) (hk:k.wrap a=a)
  (h:xs prog fD fC hs H full K ii ((d,.int k r)::Y) w):xs prog fD fC hs H full K (⟨some d,.binOp op t x y n,R,pos,af,none⟩::ii) Y w:=by
 refine jE g m (eqGuard_at_int ..) (λw'=>?_) h;have e0:b≠0:=fy;have u:a.tdiv b=a/b:=fM;have v:a.tmod b=a% b:=fM;have B:0<=a/b:=Int.ediv_nonneg h1 fy;have e4:a/b<=a:=Int.ediv_le_self _ h1
 have C:k.wrap (a/b)=a/b:=by
  cases k<;>simp[IntKind.wrap,IntKind.signed,IntKind.bits]at hk|-<;>omega
 unfold Xx at f;split at f<;>first|simp_all [binOp,Op.intDiv]|cases f
def xdi {op:BinOp} {t:i9} (m:gh Y x=some (.I a)) (n:gh Y y=some (.I b)) (g:Xx op a b=some r) (h1:0<=a) (f:0<b) (h3:a<=9223372036854775807)
  (h:xs prog fD fC hs H full K ii ((d,.I r)::Y) w):xs prog fD fC hs H full K (⟨some d,.binOp op t x y u,R,pos,af,none⟩::ii) Y w:=
 xdv m n g h1 f (CY _ fy) h
def O1 {op:BinOp} {t:i9} (m:gh Y x=some (.int .u64 a)) (n:gh Y y=some (.int .u64 b)) (g:Xx op a b=some r) (h1:0<=a) (f:0<b) (h3:a<=18446744073709551615)
  (h:xs prog fD fC hs H full K ii ((d,.int .u64 r)::Y) w):xs prog fD fC hs H full K (⟨some d,.binOp op t x y u,R,pos,af,none⟩::ii) Y w:=
 xdv m n g h1 f (u64_in _ h1 h3) h
def OA (op:BinOp) (a b:Int):Option Prop:=match op with
 | .eql=>some (a=b)
 | .neq=>some (a≠b)
 | .lss=>some (a<b)
 | .leq=>some (a<=b)
 | .gtr=>some (b<a)
 | .geq=>some (b<=a)
 |_=>none
def SL {op:BinOp} {t:i9} (g:gh Y x=some (.int k a)) (m:gh Y y=some (.int k b)) (f:OA op a b=some p) (u:p)
  (h:xs prog fD fC hs H full K ii ((d,.bool true)::Y) w):xs prog fD fC hs H full K (⟨some d,.binOp op t x y n,R,pos,af,none⟩::ii) Y w:=by
 refine jE g m (eqGuard_at_int ..) (λw'=>?_) h;unfold OA at f;split at f<;>first|simp_all [binOp,Op.intCmp]|grind|cases f
def SM {op:BinOp} {t:i9} (g:gh Y x=some (.int k a)) (m:gh Y y=some (.int k b)) (f:OA op a b=some p) (u:¬p)
  (h:xs prog fD fC hs H full K ii ((d,.bool false)::Y) w):xs prog fD fC hs H full K (⟨some d,.binOp op t x y n,R,pos,af,none⟩::ii) Y w:=by
 refine jE g m (eqGuard_at_int ..) (λw'=>?_) h;unfold OA at f;split at f<;>first|simp_all [binOp,Op.intCmp]|cases f
def T8 {op:BinOp} {t v:i9} (m:gh Y x=some (.int k a)) (n:gh Y y=some (.int k b)) (g:OA op a b=some p)
  (ht:p->xs prog fD fC hs H full K ii ((d,.bool true)::Y) w) (u:¬p->xs prog fD fC hs H full K ii ((d,.bool false)::Y) w):xs prog fD fC hs H full K (⟨some d,.binOp op t x y v,R,pos,af,none⟩::ii) Y w:=by
 by_cases f:p
 .exact SL m n g f (ht f)
 .exact SM m n g f (u f)
def xcv {t:i9} {k0:kw} (g:gh Y x=some (.int k0 a)) (f:kindOf s=some k0) (ht:kindOf t=some k) (hk:k.wrap a=r)
  (h:xs prog fD fC hs H full K ii ((d,.int k r)::Y) w):xs prog fD fC hs H full K (⟨some d,.convert s t x,R,pos,af,none⟩::ii) Y w:=by
 exact y16
def B1 {t:i9} {k0:kw} (g:gh Y x=some (.int k0 a)) (f:kindOf s=some k0) (ht:kindOf t=some .i64) (h1: -9223372036854775808<=a) (m:a<=9223372036854775807)
  (h:xs prog fD fC hs H full K ii ((d,.I a)::Y) w):xs prog fD fC hs H full K (⟨some d,.convert s t x,R,pos,af,none⟩::ii) Y w:=xcv g f ht (CY _ fy) h
def ya {t:i9} {k0:kw} (m:gh Y x=some (.int k0 a)) (g:kindOf s=some k0) (ht:kindOf t=some .u64) (h1:0<=a) (f:a<=18446744073709551615)
  (h:xs prog fD fC hs H full K ii ((d,.int .u64 a)::Y) w):xs prog fD fC hs H full K (⟨some d,.convert s t x,R,pos,af,none⟩::ii) Y w:=xcv m g ht (u64_in _ h1 f) h
def xix {t:i9} {b n:Nat} {j:Int} (m:gh Y x=some (.S b o n c)) (hi:gh Y i=some (.int k j)) (u:es t=some z) (h0:0<=j) (h1:j<n)
  (h:xs prog fD fC hs H full K ii ((d,.pointer (some ⟨b,o+j.toNat*z,none⟩))::Y) w):xs prog fD fC hs H full K (⟨some d,.indexAddr t x i,R,pos,af,none⟩::ii) Y w:=by
 obtain⟨e,v,f,h3,g⟩:=mY u;refine gW fx (by grind [gd,Op.operands]) ⟨_,λw'=>?_,h⟩;simp[execOp,fR m,fR hi,Instr.indexAt,asIntOf,run_underlying f,h0,h1,sizeOf,typeInfo,h3,g,nE]
def Bw {t:i9} {p:Addr} (n:gh Y x=some (.pointer (some p))) (ht:one t=true) (hc:w.cell? p=some v)
  (h:xs prog fD fC hs H full K ii ((d,v)::Y) w) (hm:n4 hs (some d)=false:=by rfl):xs prog fD fC hs H full K (⟨some d,.load t x,R,pos,af,none⟩::ii) Y w:=by
 obtain⟨⟨u,h1,f,h3⟩,_⟩:=nj ht;refine gW fx (by grind [gd,Op.operands]) ?_;have m:ja fD fC hs ⟨some d,.load t x,R,pos,af,none⟩= .r:=by simp[ja,cls,hm]
 rw[m];refine⟨v,?_,h⟩
 have g:(isAgg t).run prog w= .ok false w:=by
  unfold isAgg;simp only[tg,run_underlying h1,tp];cases u<;>first|exact absurd rfl (f _)|exact absurd rfl (h3 _ _)|simp
 simp[execOp,fR n,Instr.loadAt,Instr.sureAddr,loadVar,g,load,Sem.run,hc]
def pG {t:i9} {p:Addr} (u:gh Y x=some (.pointer (some p))) (ht:one t=true) (hc:∀w',H w'->w'.cell? p=some v)
  (h:xs prog fD fC hs H full K ii ((d,v)::Y) w) (hm:n4 hs (some d)=true:=by rfl):xs prog fD fC hs H full K (⟨some d,.load t x,R,pos,af,none⟩::ii) Y w:=by
 obtain⟨⟨y,h1,f,h3⟩,_⟩:=nj ht;refine gW fx (by grind [gd,Op.operands]) ?_;have m:ja fD fC hs ⟨some d,.load t x,R,pos,af,none⟩= .h:=by simp[ja,cls,hm]
 rw[m];refine⟨v,λw' n=>?_,h⟩
 have g:(isAgg t).run prog w'= .ok false w':=by
  unfold isAgg;simp only[tg,run_underlying h1,tp];cases y<;>first|exact absurd rfl (f _)|exact absurd rfl (h3 _ _)|simp
 simp[execOp,fR u,Instr.loadAt,Instr.sureAddr,loadVar,g,load,Sem.run,hc w' n]
def xst {t:i9} {p:Addr} {u:i6} (B:gh Y x=some (.pointer (some p))) (C:gh Y y=some v) (ht:one t=true) (d:v.oneCell'=true) (hc:w.cell? p=some u) (m:w.frozen? p=false)
  (h:xs prog fD fC hs H full K ii Y (w.setCell p v)) (hH:H (w.setCell p v):=by trivial):xs prog fD fC hs H full K (⟨none,.store t x y,R,pos,af,none⟩::ii) Y w:=by
 obtain⟨_,i,h1,f⟩:=nj ht;refine gW fx (by grind [gd,Op.operands]) ?_;have g:v.cells= #[v]:=by cases v<;>first|rfl|cases d
 have n:(storeVar t p v).run prog w= .ok () (w.setCell p v):=by
  simp[storeVar,g,sizeOf,typeInfo,h1,f,storeCells,Addr.add_zero',run_store _ _ _ _ _ d,hc,m]
 show out prog ((execOp (ev Y) ⟨none,.store t x y,R,pos,af,none⟩).run prog w) _
 have e:(execOp (ev Y) ⟨none,.store t x y,R,pos,af,none⟩).run prog w= .ok .skip (w.setCell p v):=by
  simp[execOp,fR B,fR C,Instr.storeAt,Instr.sureAddr,n]
 rw[e];exact⟨hH,h⟩
def O2 (Y:Env):ip i7->Option (ip i6)
 |[]=>some []
 |x::r=>match gh Y x,O2 Y r with
  |some v,some vs=>some (v::vs)
  |_,_=>none
theorem oh:∀{l:ip i7} {vs:ip i6},O2 Y l=some vs->l.map (ev Y)=vs/\∀x∈l,(gh Y x).isSome=true
 |[],vs,h=>by injection h with h;grind
 | x::r,vs,h=>by
  simp only[O2]at h;split at h
  .rename_i v m g d;injection h with h;subst h
   obtain⟨h1,f⟩:=oh d
   grind [fR]
  .cases h
def fI {f:FuncId} {d:Array i9} {S:i6->i5->Prop} (n:O2 Y args=some vs) (x:bit qR f=true) (u:fQ prog f vs.toArray w S)
  (h:∀v w',S v w'->xs prog fD fC hs H full K ii (put Y dst v) w') (hH:∀v w',S v w'->H w':=by intros;trivial):xs prog fD fC hs H full K (⟨dst,.call {callee:= .value (.func f),args:=args.toArray,argTypes:=d},R,pos,af,none⟩::ii) Y w:=by
 obtain⟨h1,D⟩:=oh n;obtain⟨fn,y,g,B⟩:=HR x;refine gW fx (by grind [gd,Op.operands,Call.operands,gh]) ?_;show out prog ((execOp (ev Y) ⟨dst,.call {callee:= .value (.func f),args:=args.toArray,argTypes:=d},R,pos,af,none⟩).run prog w) _
 have e:(execOp (ev Y) ⟨dst,.call {callee:= .value (.func f),args:=args.toArray,argTypes:=d},R,pos,af,none⟩).run prog w= .ok (.enter f vs.toArray) w:=by
  have t:¬fn.body=none:=by intro e;rw[e]at g;cases g
  have C:¬fn.name= "runtime.NumGoroutine" :=by simpa using B
  have m:ev Y (.func f)= .func (.func f) #[] #[]:=rfl;simp[execOp,resolve,m,Deferred.ofValue,invoke,callFunc,h1,y,C,t]
 rw[e];exact pS u λe w' ⟨v,he,k⟩=>fM
end
def px (fD fC:i9->Bool) (hs:ip Nat) (cut:Nat) (full:Array li) (A:Array Nat):Bool:=
 Region.noSelect full&&decide (cut<=full.size)&&(List.range full.size).all λi=>
  match full[i]? with
  |none=>false
  | some o=>
   (o.after.all λe=>!Region.binds .any e||decide (e.on<i))&&
   (List.range i).all λj=>
    if(A.getD i 0).testBit j then o.after.any λe=>Region.binds .any e&&(e.on==j||(decide (j<e.on)&&(A.getD e.on 0).testBit j))
    else if i<cut then free fD fC hs full j i else decide (cut<=j)&&free fD fC [] full j i
structure JL (fD fC:TypeId->Bool) (hs:List Nat) (cut:Nat) (full:Array Oper) (A:Array Nat):Prop where
 V3:Region.noSelect full=true
 le:cut<=full.size
 down:∀i o,full[i]? =some o->∀e∈o.after,Region.binds .any e=true->e.on<i
 WR:∀i o,full[i]? =some o->∀j,j<i->(A.getD i 0).testBit j=true->∃e∈o.after,Region.binds .any e=true/\(e.on=j\/(j<e.on/\(A.getD e.on 0).testBit j=true))
 fre:∀i o,full[i]? =some o->∀j,j<i->(A.getD i 0).testBit j=false->i<cut->free fD fC hs full j i=true
 abU:∀i o,full[i]? =some o->∀j,j<i->(A.getD i 0).testBit j=false->cut<=i->cut<=j/\free fD fC [] full j i=true
section
variable {P:Program} {fD fC:i9->Bool} {hs:ip Nat} {H:i5->Prop} {cut:Nat}
def xx {A:Array Nat} (h:px fD fC hs cut full A=true):JL fD fC hs cut full A:=by
 unfold px at h;rw[iU,iU]at h
 have m:∀i o,full[i]? =some o->(o.after.all λe=>!Region.binds .any e||decide (e.on<i))=true/\
   ∀j,j<i->(if(A.getD i 0).testBit j then o.after.any λe=>Region.binds .any e&&(e.on==j||(decide (j<e.on)&&(A.getD e.on 0).testBit j))
    else if i<cut then free fD fC hs full j i else decide (cut<=j)&&free fD fC [] full j i)=true:=λi o d=>by
  have fY:i<full.size:=(KE.1 d).1;have hi:=ld.1 h.2 i (x2.2 fY);rw[d]at hi;simp only[iU]at hi;exact⟨hi.1,λj f=>ld.1 hi.2 j (x2.2 f)⟩
 refine⟨h.1.1,by simpa using h.1.2,λi o d e he t=>?_,λi o d j f g=>?_,λi o d j f g hc=>?_,λi o d j f g hc=>?_⟩
 .have:=OS.1 (m i o d).1 e he;simpa[t]using this
 .have:=(m i o d).2 j f;rw[if_pos g]at this;obtain⟨e,he,n⟩:=Qo.1 this;simp only[iU,uf,beq_iff_eq,decide_eq_true_eq]at n;exact⟨e,he,n.1,n.2⟩
 .have:=(m i o d).2 j f;rw[if_neg (by rw[g];decide),if_pos hc]at this;exact this
 .have:=(m i o d).2 j f;rw[if_neg (by rw[g];decide),if_neg fy,iU]at this;exact⟨by simpa using this.1,this.2⟩
def G6 {A:Array Nat} (hq:JL fD fC hs cut full A) (B:listed.size=full.size)
  (down:∀i o,full[i]? =some o->listed.getD i false=true->∀e∈o.after,Region.binds .any e=true->listed.getD e.on false=true) {j:Nat}:
  ∀(m k:Nat),k<m->listed.getD k false=true->(A.getD k 0).testBit j=true->j<k->listed.getD j false=true:=by
 intro m
 induction m with
 |zero=>intro k hk;omega
 | succ m y=>
  intro k hk f u v
  have w:k<full.size:=by
   rcases p9 k full.size with d|d
   .exact d
   .rw[pq,FB fy]at f;cases f
  obtain⟨ok,g⟩:∃ok,full[k]? =some ok:=⟨_,wW w⟩;obtain⟨e,he,n,x⟩:=hq.WR k ok g j v u;have hle:=down k ok g f e he n;rcases x with d|⟨fY,t⟩
  .rw[<-d];exact hle
  .exact y e.on (by have:=hq.down k ok g e he n;omega) hle t fY
def ss2 (P:Program) (fD fC:i9->Bool) (hs:ip Nat) (H:i5->Prop) (full:Array li) (K:Act->i5->Prop) (l1 l2:ip Nat) (a:Act) (w:i5):Prop:=
 ss P fD fC hs H full (λa w=>ss P fD fC [] gS full K l2 a w) l1 a w
def sh {i:Nat} (f:listed.size=full.size) (hi:i∈Region.ready .any full listed):i<full.size/\listed.getD i false=false:=by
 obtain⟨h0,o,d,_⟩:=mem_ready.1 hi;have fY:i<full.size:=(KE.1 d).1;refine⟨fY,?_⟩;rw[pq,wW fy]at h0|-;simpa using h0
def vX {A:Array Nat} (hq:JL fD fC hs cut full A) {K:Act->i5->Prop} {Q:Exit->Act->i5->Prop} (X:∀a w,K a w->Q .normal a w):
  ∀(fuel:Nat) (listed:Array Bool) (l1 l2:ip Nat) (a:Act) (w:i5),(l1≠[]->H w)->listed.size=full.size->(l1++l2).length<=fuel->(l1++l2).Pairwise (· <·)->(∀i∈l1,i<cut)->(∀i∈l2,cut<=i)->(∀i,i∈l1++l2↔i<full.size/\listed.getD i false=false)->
   (∀i o,full[i]? =some o->listed.getD i false=true->∀e∈o.after,Region.binds .any e=true->listed.getD e.on false=true)->
   ss2 P fD fC hs H full K l1 l2 a w->wpAny P .any full Q fuel listed a w:=by
 intro fuel
 have start:∀(listed:Array Bool) (l:ip Nat),listed.size=full.size->l.Pairwise (· <·)->(∀i,i∈l↔i<full.size/\listed.getD i false=false)->
   Region.ready .any full listed=[]->l=[]:=by
  intro listed l C m t G;cases l with
  |nil=>rfl
  | cons i r=>
   exfalso;have hi:=(t i).1 iB;obtain⟨o,n⟩:∃o,full[i]? =some o:=⟨_,wW hi.1⟩
   have:i∈Region.ready .any full listed:=by
    rw[mem_ready];refine⟨?_,o,n,λe he D=>?_⟩
    .have W:=hi.2;rw[pq,wW fy]at W|-;simpa using W
    .have fY:=hq.down i o n e he D;cases hle:listed.getD e.on false with
     |true=>rfl
     |false=>
      have:=(t e.on).2 ⟨fy,hle⟩;rcases iu.1 this with d|d
      .omega
      .have:=V4 m d;omega
   rw[G]at this;cases this
 induction fuel with
 | zero=>
  intro listed l1 l2 a w hw C hlen m I J t O h;have S:l1++l2=[]:=BZ fy;obtain⟨rfl,rfl⟩:=WV.1 S;refine⟨?_,X _ _ h⟩;cases G:Region.ready .any full listed with
  |nil=>rfl
  |cons i r=>
   exfalso;have hi:i∈Region.ready .any full listed:=by rw[G];simp
   have:=(t i).2 (sh C hi);cases this
 | succ fuel ae=>
  intro listed l1 l2 a w hw C hlen m I J t O h;refine⟨λG=>?_,λi hi=>?_⟩
  .obtain⟨rfl,rfl⟩:=WV.1 (start listed _ C m t G);exact X _ _ h
  obtain⟨fY,am⟩:=sh C hi;obtain⟨_,o,n,Y⟩:=mem_ready.1 hi
  have U:∀j,j<i->listed.getD j false=false->(A.getD i 0).testBit j=false:=λj f aj=>by
   cases ah:(A.getD i 0).testBit j with
   |false=>rfl
   | true=>
    exfalso;obtain⟨e,he,D,al⟩:=hq.WR i o n j f ah;have hle:=Y e he D
    have:listed.getD j false=true:=by
     rcases al with d|⟨ak,ai⟩
     .rw[<-d];exact hle
     .exact G6 hq C O (e.on+1) e.on fy hle ai ak
    rw[aj]at this;cases this
  have V:∀j,j∈l1++l2->listed.getD j false=false:=λj g=>((t j).1 g).2
  have Z:∀ad o',full[ad]? =some o'->(listed.setIfInBounds i true).getD ad false=true->∀e∈o'.after,Region.binds .any e=true->(listed.setIfInBounds i true).getD e.on false=true:=by
   intro af ok E ab e he D;refine getD_set_true ?_
   by_cases aa:af=i
   .subst aa;rw[n]at E;injection E with E
    subst E;exact Y e he D
   .rw[getD_set_ne false (uG aa)]at ab;exact O af ok E ab e he D
  have ag:∀(x y:ip Nat),l1++l2=x++i::y->∀j,j∈x++y↔j<full.size/\(listed.setIfInBounds i true).getD j false=false:=by
   intro x y M j;rw[M]at m t;have B:=ke.1 m;have F:=jA.1 B.2.1
   by_cases f:j=i
   .subst f;constructor
    .intro hm;exfalso;rcases iS.1 hm with d|d
     .have:=B.2.2 j d j iB;omega
     .have:=F.1 j d;omega
    .rintro⟨_,d⟩;rw[pq,SH fy]at d;cases d
   .rw[getD_set_ne false (uG f),<-t j];simp[f]
  rcases iS.1 ((t i).2 ⟨fY,am⟩)with hm|hm
  .obtain⟨x,y,rfl⟩:=QN hm;have L:i<cut:=I i iB
   have R:∀j∈x,free fD fC hs full j i=true:=λj g=>by
    have f:j<i:=by
     rw[kF]at m;exact(ke.1 m).2.2 j g i iB
    exact hq.fre i o n j f (U j f (V j (by simp[g]))) L
   refine oK (fD:=fD) (fC:=fC) (hs:=hs) (hw iB) (λN w' an k=>?_) n (vp hq.V3 n y x a w R (hw iB) h);have M:(x++i::y)++l2=x++i::(y++l2):=by simp
   refine ae _ (x++y) l2 N w' (λ_=>an) (by simpa using C) (by simp at hlen|-;omega) ?_ (λj g=>I j (by rcases iS.1 g with d|d<;>simp[d])) J (λj=>by have:=ag x (y++l2) M j;simpa using this) Z k;rw[M]at m;have B:=ke.1 m;have F:=jA.1 B.2.1;rw[kF];exact ke.2 ⟨B.1,F.2,λu hu v T=>B.2.2 u hu v (by simp[T])⟩
  .have L:cut<=i:=J i hm
   have S:l1=[]:=by
    cases l1 with
    |nil=>rfl
    |cons j r=>
     exfalso;have ao:=I j iB;have f:j<i:=fy;have:=hq.abU i o n j f (U j f (V j iB)) L;omega
   subst S;obtain⟨x,y,rfl⟩:=QN hm;rw[tz]at m
   have R:∀j∈x,free fD fC [] full j i=true:=λj g=>by
    have f:j<i:=(ke.1 m).2.2 j g i iB;exact(hq.abU i o n j f (U j f (V j (by simp[g]))) L).2
   refine oK (fD:=fD) (fC:=fC) (hs:=[]) (H:=gS) trivial (λN w' _ k=>?_) n (vp hq.V3 n y x a w R trivial h);have B:=ke.1 m;have F:=jA.1 B.2.1
   exact ae _ [] (x++y) N w' (λe=>absurd fx e) (by simpa using C) (by simp at hlen|-;omega) (by simpa using ke.2 ⟨B.1,F.2,λu hu v T=>B.2.2 u hu v (by simp[T])⟩) (λj g=>by cases g)
    (λj g=>J j (by rcases iS.1 g with d|d<;>simp[d])) (λj=>by have:=ag x y iB j;simpa using this) Z k
theorem JT {full:Array li} {K:Act->i5->Prop}:∀(l:ip Nat) (K':Act->i5->Prop) (a:Act) (w:i5),H w->(∀a w,H w->K a w->K' a w)->ss P fD fC hs H full K l a w->ss P fD fC hs H full K' l a w
 |[],K',a,w,hw,hk,h=>hk _ _ hw h
 |i::l,K',a,w,hw,hk,h=>by
  simp only[ss]at h|-;split at h
  .exact h.elim
  .exact yO hw (λa w d k=>JT l K' a w d hk k) h
theorem n7 {N:Nat} {full:Array li} {K:Env->i5->Prop} (m:Region.noSelect full=true) (f:∀(i:Nat) (o:li),full[i]? =some o->∀t,o.dst=some t->t<N):
  ∀(l:ip li) (k:Nat) (Y:Env) (a:Act) (w:i5),(∀j o,l[j]? =some o->full[k+j]? =some o)->H w->Fits N Y a->xs P fD fC hs H full K l Y w->
   ss P fD fC hs H full (λy w'=>∃n,Fits N n y/\K n w') (List.range' k l.length) a w
 |[],k,Y,a,w,_,_,d,h=>⟨Y,d,h⟩
 | o::l,k,Y,a,w,u,hw,d,h=>by
  have h0:full[k]? =some o:=by simpa using(u 0 o iB)
  have x:∀j o',l[j]? =some o'->full[k+1+j]? =some o':=λj o' F=>by have:=u (j+1) o' (by simpa using F);simpa[GC,Qt 1 j]using this
  obtain⟨g,D,ht,C⟩:=h;simp only[iP,K7,ss,h0];unfold s1;rw[wJ d D];cases g with
  |true=>
   obtain⟨E,B⟩:=ht rfl;rw[if_pos rfl,<-EJ d (λcs b=>Au m k o cs b h0) E];exact kp hw (λv w' G I=>n7 m f l (k+1) _ _ w' x G (d.put o.dst (f k o h0) v) I) B
  |false=>
   rw[if_neg fU];exact n7 m f l (k+1) _ _ w x hw (d.put o.dst (f k o h0) undef) (C fx)
end
def tY {fn:Func} {u:i6->i5->Prop} {k:ip It} {id:Nat} {Y:Env} (cut:Nat) (hs:ip Nat) (H:i5->Prop) (t:pH fn.ntmps l.toArray=true) (hq:px fD fC hs cut l.toArray (Region.before l.toArray)=true) (hw:H w.drew)
  (h:xs prog fD fC hs H l.toArray (λd w'=>xs prog fD fC [] gS l.toArray (T prog fn u k) (l.drop cut) d w') (l.take cut) Y w.drew):
  T prog fn u (.code (.region id l.toArray true)::k) Y w:=λa D=>by
 obtain⟨B,t⟩:=mT t;have y:=xx hq;have hle:cut<=l.length:=by simpa using y.le
 have h1:=n7 (N:=fn.ntmps) B t (l.take cut) 0 Y a w.drew (λj o f=>by
  rw[iM]
  have F:j<cut:=by
   have:=(jR.1 f).1;rw[kv]at this;omega
  rw[GH F]at f
  simpa using f) hw D h
 rw[kv,tD hle]at h1
 have C:ss2 prog fD fC hs H l.toArray (λg w'=>∃d,Fits fn.ntmps d g/\T prog fn u k d w') (List.range' 0 cut) (List.range' cut (l.length-cut)) a w.drew:=by
  refine JT _ _ a _ hw (λg w' _ ⟨d,v,G⟩=>?_) h1
  have:=n7 (N:=fn.ntmps) B t (l.drop cut) cut d g w' (λj o f=>by
   rw[Bu]at f
   simpa using f) trivial v G
  rwa[lY]at this
 refine wp_region_any mixed (vX y (λg w' ⟨d,v,ht⟩=>ht g v) l.toArray.size _ (List.range' 0 cut) (List.range' cut (l.length-cut)) a _ (λ_=>hw) iB (by simp;omega) ?_ (λi hi=>by rw[C8]at hi;omega) (λi hi=>by rw[C8]at hi;omega) (λi=>?_) (λi o f x=>?_) C)
 .have e:List.range' 0 cut++List.range' cut (l.length-cut)=List.range l.length:=by
   have:=V9 (s:=0) (m:=cut) (n:=l.length-cut);rw[iM]at this;rw[this,xE]
   congr 1;omega
  rw[e];exact QT
 .rw[iS,C8,C8];simp[pq];constructor
  .intro E;have:i<l.length:=fy;exact⟨this,by simp[this]⟩
  .intro E;omega
 .exfalso;rw[pq,Ry]at x;split at x<;>simp at x
def Xr {α β:Type} (l0 l1:Nat) (d:α->Env) (g:α->i5->Prop) (m0:α->Nat) (f:β->Env) (m:β->i5->Prop) (m1:β->Nat):Nat->Nat->Env->i5->Prop:=
 λl n Y w=>(l=l0/\∃x,Sub (d x) Y/\g x w/\m0 x=n)\/(l=l1/\∃x,Sub (f x) Y/\m x w/\m1 x=n)
def uA {P:Program} {fn:Func} {t:i6->i5->Prop} {k:ip It} {Y:Env} {α β:Type} {c:Code} {B C:ip It} (l0 l1:Nat) (J:l0≠l1) (D:after c l0=some B) (E:after c l1=some C) (d:α->Env) (g:α->i5->Prop) (m0:α->Nat) (f:β->Env) (m:β->i5->Prop) (m1:β->Nat)
  (H:∀x w,g x w->(∀y w',m y w'->m1 y<m0 x->T P fn t (C++ .wu (BB (Xr l0 l1 d g m0 f m m1) (m0 x))::k) (f y) w')->T P fn t (B++ .wu (BB (Xr l0 l1 d g m0 f m m1) (m0 x))::k) (d x) w)
  (I:∀x w,m x w->(∀y w',g y w'->m0 y<m1 x->T P fn t (B++ .wu (BB (Xr l0 l1 d g m0 f m m1) (m1 x))::k) (d y) w')->T P fn t (C++ .wu (BB (Xr l0 l1 d g m0 f m m1) (m1 x))::k) (f x) w)
  (first:(∀x w,g x w->T P fn t (B++ .wu (Er (Xr l0 l1 d g m0 f m m1))::k) (d x) w)->(∀x w,m x w->T P fn t (C++ .wu (Er (Xr l0 l1 d g m0 f m m1))::k) (f x) w)->T P fn t (.code c:: .wu (Er (Xr l0 l1 d g m0 f m m1))::k) Y w):
  T P fn t (.code (.scope c)::k) Y w:=by
 refine Jj (Xr l0 l1 d g m0 f m m1) ?_ ?_ ?_
 .rintro l n Y w (⟨rfl,_⟩|⟨rfl,_⟩)
  .exact⟨B,D⟩
  .exact⟨C,E⟩
 .rintro n l K Y w u (⟨rfl,x,hs,v,rfl⟩|⟨rfl,x,hs,v,rfl⟩) G
  .rw[D]at u;injection u with u;subst u
   exact iw (H x w v λy w' F fY=>G l1 C (f y) w' E ⟨m1 y,fY,.inr ⟨rfl,y,λ_ _ h=>h,F,rfl⟩⟩) hs
  .rw[E]at u;injection u with u;subst u
   exact iw (I x w v λy w' F fY=>G l0 B (d y) w' D ⟨m0 y,fY,.inl ⟨rfl,y,λ_ _ h=>h,F,rfl⟩⟩) hs
 .intro h;exact first (λx w v=>h l0 B (d x) w D ⟨m0 x,.inl ⟨rfl,x,λ_ _ h=>h,v,rfl⟩⟩) (λx w v=>h l1 C (f x) w E ⟨m1 x,.inr ⟨rfl,x,λ_ _ h=>h,v,rfl⟩⟩)
def Hx:ip li->Nat->Option Tmp
 |[],_=>none
 |o::_,0=>o.dst
 |_::r,j+1=>Hx r j
theorem Iu:∀(l:ip li) (j:Nat),Hx l j=(l[j]?).bind (·.dst)
 |[],_=>rfl
 |o::_,0=>rfl
 |_::r,j+1=>by simp only[Hx,Dr];exact Iu r j
def Z6 (l:ip li) (Y:Env) (j:Nat) (want:Bool):Option Bool:=match Hx l j with
 |none=>some false
 |some d=>match look Y d with
  |some (.bool true)=>some want
  |some (.bool false)=>some (!want)
  |some _=>some false
  |none=>none
theorem KW {Y:Env} {b:Bool} (h:Z6 l Y j want=some b):gv l.toArray Y (some (j,want))=some b:=by
 unfold Z6 at h;rw[Iu]at h;unfold gv;dsimp only;rw[po];exact h
def vK {hs:ip Nat} {H:i5->Prop} {K:Env->i5->Prop} {ii:ip li} {Y:Env} {dst:Option Tmp} {R:i9} {pos:String} {af:Array Edge} {op:Op} (d:Z6 l Y j want=some true)
  (h:xs prog fD fC hs H l.toArray K (⟨dst,op,R,pos,af,none⟩::ii) Y w):xs prog fD fC hs H l.toArray K (⟨dst,op,R,pos,af,some (j,want)⟩::ii) Y w:=xgy (KW d) h
def vh {hs:ip Nat} {H:i5->Prop} {K:Env->i5->Prop} {ii:ip li} {Y:Env} {d:Tmp} {R:i9} {pos:String} {af:Array Edge} {op:Op} (f:Z6 l Y j want=some false)
  (h:xs prog fD fC hs H l.toArray K ii ((d,undef)::Y) w):xs prog fD fC hs H l.toArray K (⟨some d,op,R,pos,af,some (j,want)⟩::ii) Y w:=xgn (KW f) h
section
variable {hs:ip Nat} {H:i5->Prop} {full:Array li} {K:Env->i5->Prop} {ii:ip li} {Y:Env} {w:i5} {d:Tmp} {dst:Option Tmp} {R:i9} {pos:String} {af:Array Edge}
def KI (f:gh Y x=some v) (h:xs prog fD fC hs H full K ii ((d,v)::Y) w):xs prog fD fC hs H full K (⟨some d,.move x,R,pos,af,none⟩::ii) Y w:=xp (op:= .move x) f h
def Jv (f:gh Y x=some v) (h:xs prog fD fC hs H full K ii ((d,v)::Y) w):xs prog fD fC hs H full K (⟨some d,.assign x,R,pos,af,none⟩::ii) Y w:=xp (op:= .assign x) f h
def pkV (a b:i6):i6->Option i6
 | .bool true=>some a
 | .bool false=>some b
 |_=>none
def IU {c:i7} {vc g m:i6} (hc:gh Y c=some vc) (n:gh Y x=some g) (t:gh Y y=some m) (f:pkV g m vc=some v) (h:xs prog fD fC hs H full K ii ((d,v)::Y) w):
  xs prog fD fC hs H full K (⟨some d,.pick c x y,R,pos,af,none⟩::ii) Y w:=by
 refine xp (op:= .pick c x y) (v:=v) ?_ h;unfold rR;simp only[n,t,hc];unfold pkV at f;split at f
 .exact f
 .exact f
 .cases f
def Jb {a:Addr} (f:gh Y x=some (.pointer (some a))) (h:xs prog fD fC hs H full K ii ((d,.pointer (some a))::Y) w):xs prog fD fC hs H full K (⟨some d,.nilCheck x,R,pos,af,none⟩::ii) Y w:=
 xp (op:= .nilCheck x) (by unfold rR;simp only[f]) h
def Ku {s b off:Nat} (n:gh Y x=some (.pointer (some ⟨b,o,none⟩))) (m:fo s f=some off) (g:Nat.blt f 100=true) (h:xs prog fD fC hs H full K ii ((d,.pointer (some ⟨b,o+off,none⟩))::Y) w):
  xs prog fD fC hs H full K (⟨some d,.fieldAddr s x f,R,pos,af,none⟩::ii) Y w:=xp (op:= .fieldAddr s x f) (by unfold rR;simp only[n,m,g]) h
def I2 {i:Nat} {vs:Array i6} (f:gh Y x=some (.tuple vs)) (hi:vs[i]? =some v) (h:xs prog fD fC hs H full K ii ((d,v)::Y) w):xs prog fD fC hs H full K (⟨some d,.extract x i,R,pos,af,none⟩::ii) Y w:=
 xp (op:= .extract x i) (by unfold rR;simp only[f,hi]) h
def ti {t:i9} {b:Bool} (f:gh Y x=some (.bool b)) (h:xs prog fD fC hs H full K ii ((d,.bool (!b))::Y) w):xs prog fD fC hs H full K (⟨some d,.unOp .not t x,R,pos,af,none⟩::ii) Y w:=
 xp (op:= .unOp .not t x) (by unfold rR;simp only[f];cases b<;>rfl) h
def lnV (t:i9):i6->Option i6
 | .slice _ n _=>match es t with
  |some _=>some (.I n)
  |none=>none
 | .string s=>match fC t with
  |true=>some (.I s.size)
  |false=>none
 |_=>none
def IV {t:i9} {g:i6} (m:gh Y x=some g) (f:lnV t g=some v) (h:xs prog fD fC hs H full K ii ((d,v)::Y) w):
  xs prog fD fC hs H full K (⟨some d,.call {callee:= .builtin .len,args:=⟨[x]⟩,argTypes:=⟨[t]⟩},R,pos,af,none⟩::ii) Y w:=by
 refine xp (op:= .call {callee:= .builtin .len,args:=⟨[x]⟩,argTypes:=⟨[t]⟩}) (v:=v) ?_ h;unfold rR;simp only[m];unfold lnV at f;split at f
 .exact f
 .exact f
 .cases f
def abV:i6->Option i6
 | .pointer (some _)=>some (.bool false)
 | .pointer none=>some (.bool true)
 |_=>none
def u6 {t:i9} {g:i6} (u:gh Y x=some g) (n:bit C6 t=true) (f:abV g=some v) (h:xs prog fD fC hs H full K ii ((d,v)::Y) w):
  xs prog fD fC hs H full K (⟨some d,.binOp .eql t x (.const (.pointer none)) m,R,pos,af,none⟩::ii) Y w:=by
 refine xp (op:= .binOp .eql t x (.const (.pointer none)) m) (v:=v) ?_ h;unfold rR;simp only[u,n];unfold abV at f;split at f
 .exact f
 .exact f
 .cases f
def ZK:i6->Option i6
 | .pointer (some _)=>some (.bool true)
 | .pointer none=>some (.bool false)
 |_=>none
def vN {t:i9} {g:i6} (u:gh Y x=some g) (n:bit C6 t=true) (f:ZK g=some v) (h:xs prog fD fC hs H full K ii ((d,v)::Y) w):
  xs prog fD fC hs H full K (⟨some d,.binOp .neq t x (.const (.pointer none)) m,R,pos,af,none⟩::ii) Y w:=by
 refine xp (op:= .binOp .neq t x (.const (.pointer none)) m) (v:=v) ?_ h;unfold rR;simp only[u,n];unfold ZK at f;split at f
 .exact f
 .exact f
 .cases f
def vm {t:i9} (g:gh Y x=some (.I a)) (m:gh Y y=some (.I b)) (h1: -9223372036854775808<=a+b) (f:a+b<=9223372036854775807)
  (h:xs prog fD fC hs H full K ii ((d,.I (a+b))::Y) w):xs prog fD fC hs H full K (⟨some d,.binOp .add t x y n,R,pos,af,none⟩::ii) Y w:=xai g m rfl h1 f h
def vV {t:i9} (g:gh Y x=some (.I a)) (m:gh Y y=some (.I b)) (h1: -9223372036854775808<=a-b) (f:a-b<=9223372036854775807)
  (h:xs prog fD fC hs H full K ii ((d,.I (a-b))::Y) w):xs prog fD fC hs H full K (⟨some d,.binOp .sub t x y n,R,pos,af,none⟩::ii) Y w:=xai g m rfl h1 f h
def vu {t:i9} (g:gh Y x=some (.I a)) (m:gh Y y=some (.I b)) (h1: -9223372036854775808<=a*b) (f:a*b<=9223372036854775807)
  (h:xs prog fD fC hs H full K ii ((d,.I (a*b))::Y) w):xs prog fD fC hs H full K (⟨some d,.binOp .mul t x y n,R,pos,af,none⟩::ii) Y w:=xai g m rfl h1 f h
def oU {t:i9} (g:gh Y x=some (.int .u64 a)) (m:gh Y y=some (.int .u64 b)) (h1:0<=a+b) (f:a+b<=18446744073709551615)
  (h:xs prog fD fC hs H full K ii ((d,.int .u64 (a+b))::Y) w):xs prog fD fC hs H full K (⟨some d,.binOp .add t x y n,R,pos,af,none⟩::ii) Y w:=Zq g m rfl h1 f h
def oW {t:i9} (g:gh Y x=some (.int .u64 a)) (m:gh Y y=some (.int .u64 b)) (h1:0<=a-b) (f:a-b<=18446744073709551615)
  (h:xs prog fD fC hs H full K ii ((d,.int .u64 (a-b))::Y) w):xs prog fD fC hs H full K (⟨some d,.binOp .sub t x y n,R,pos,af,none⟩::ii) Y w:=Zq g m rfl h1 f h
def uk {t:i9} (g:gh Y x=some (.I a)) (m:gh Y y=some (.I b)) (h1:0<=a) (f:0<b) (h3:a<=9223372036854775807)
  (h:xs prog fD fC hs H full K ii ((d,.I (a/b))::Y) w):xs prog fD fC hs H full K (⟨some d,.binOp .quo t x y n,R,pos,af,none⟩::ii) Y w:=xdi g m rfl h1 f h3 h
def tQ {t:i9} (g:gh Y x=some (.I a)) (m:gh Y y=some (.I b)) (h1:0<=a) (f:0<b) (h3:a<=9223372036854775807)
  (h:xs prog fD fC hs H full K ii ((d,.I (a% b))::Y) w):xs prog fD fC hs H full K (⟨some d,.binOp .rem t x y n,R,pos,af,none⟩::ii) Y w:=xdi g m rfl h1 f h3 h
def l9 {t:i9} (g:gh Y x=some (.int k a)) (m:gh Y y=some (.int k b)) (f:a=b) (h:xs prog fD fC hs H full K ii ((d,.bool true)::Y) w):xs prog fD fC hs H full K (⟨some d,.binOp .eql t x y n,R,pos,af,none⟩::ii) Y w:=SL g m rfl f h
def mB {t:i9} (f:gh Y x=some (.int k a)) (g:gh Y y=some (.int k b)) (n:a≠b) (h:xs prog fD fC hs H full K ii ((d,.bool false)::Y) w):xs prog fD fC hs H full K (⟨some d,.binOp .eql t x y m,R,pos,af,none⟩::ii) Y w:=SM f g rfl fy h
def lj {t:i9} (g:gh Y x=some (.int k a)) (m:gh Y y=some (.int k b)) (ht:a=b->xs prog fD fC hs H full K ii ((d,.bool true)::Y) w) (f:a≠b->xs prog fD fC hs H full K ii ((d,.bool false)::Y) w):xs prog fD fC hs H full K (⟨some d,.binOp .eql t x y n,R,pos,af,none⟩::ii) Y w:=T8 g m rfl ht (λu=>f fy)
def mu {t:i9} (g:gh Y x=some (.int k a)) (m:gh Y y=some (.int k b)) (f:a≠b) (h:xs prog fD fC hs H full K ii ((d,.bool true)::Y) w):xs prog fD fC hs H full K (⟨some d,.binOp .neq t x y n,R,pos,af,none⟩::ii) Y w:=SL g m rfl f h
def l7 {t:i9} (f:gh Y x=some (.int k a)) (g:gh Y y=some (.int k b)) (n:a=b) (h:xs prog fD fC hs H full K ii ((d,.bool false)::Y) w):xs prog fD fC hs H full K (⟨some d,.binOp .neq t x y m,R,pos,af,none⟩::ii) Y w:=SM f g rfl fy h
def lg {t:i9} (g:gh Y x=some (.int k a)) (m:gh Y y=some (.int k b)) (ht:a≠b->xs prog fD fC hs H full K ii ((d,.bool true)::Y) w) (f:a=b->xs prog fD fC hs H full K ii ((d,.bool false)::Y) w):xs prog fD fC hs H full K (⟨some d,.binOp .neq t x y n,R,pos,af,none⟩::ii) Y w:=T8 g m rfl ht (λu=>f fy)
def mf {t:i9} (g:gh Y x=some (.int k a)) (m:gh Y y=some (.int k b)) (f:a<b) (h:xs prog fD fC hs H full K ii ((d,.bool true)::Y) w):xs prog fD fC hs H full K (⟨some d,.binOp .lss t x y n,R,pos,af,none⟩::ii) Y w:=SL g m rfl f h
def l6 {t:i9} (f:gh Y x=some (.int k a)) (g:gh Y y=some (.int k b)) (n:b<=a) (h:xs prog fD fC hs H full K ii ((d,.bool false)::Y) w):xs prog fD fC hs H full K (⟨some d,.binOp .lss t x y m,R,pos,af,none⟩::ii) Y w:=SM f g rfl fy h
def lq {t:i9} (g:gh Y x=some (.int k a)) (m:gh Y y=some (.int k b)) (ht:a<b->xs prog fD fC hs H full K ii ((d,.bool true)::Y) w) (f:b<=a->xs prog fD fC hs H full K ii ((d,.bool false)::Y) w):xs prog fD fC hs H full K (⟨some d,.binOp .lss t x y n,R,pos,af,none⟩::ii) Y w:=T8 g m rfl ht (λu=>f fy)
def ma {t:i9} (g:gh Y x=some (.int k a)) (m:gh Y y=some (.int k b)) (f:a<=b) (h:xs prog fD fC hs H full K ii ((d,.bool true)::Y) w):xs prog fD fC hs H full K (⟨some d,.binOp .leq t x y n,R,pos,af,none⟩::ii) Y w:=SL g m rfl f h
def my {t:i9} (f:gh Y x=some (.int k a)) (g:gh Y y=some (.int k b)) (n:b<a) (h:xs prog fD fC hs H full K ii ((d,.bool false)::Y) w):xs prog fD fC hs H full K (⟨some d,.binOp .leq t x y m,R,pos,af,none⟩::ii) Y w:=SM f g rfl fy h
def lh {t:i9} (g:gh Y x=some (.int k a)) (m:gh Y y=some (.int k b)) (ht:a<=b->xs prog fD fC hs H full K ii ((d,.bool true)::Y) w) (f:b<a->xs prog fD fC hs H full K ii ((d,.bool false)::Y) w):xs prog fD fC hs H full K (⟨some d,.binOp .leq t x y n,R,pos,af,none⟩::ii) Y w:=T8 g m rfl ht (λu=>f fy)
def ml {t:i9} (g:gh Y x=some (.int k a)) (m:gh Y y=some (.int k b)) (f:b<a) (h:xs prog fD fC hs H full K ii ((d,.bool true)::Y) w):xs prog fD fC hs H full K (⟨some d,.binOp .gtr t x y n,R,pos,af,none⟩::ii) Y w:=SL g m rfl f h
def mv {t:i9} (f:gh Y x=some (.int k a)) (g:gh Y y=some (.int k b)) (n:a<=b) (h:xs prog fD fC hs H full K ii ((d,.bool false)::Y) w):xs prog fD fC hs H full K (⟨some d,.binOp .gtr t x y m,R,pos,af,none⟩::ii) Y w:=SM f g rfl fy h
def lv {t:i9} (g:gh Y x=some (.int k a)) (m:gh Y y=some (.int k b)) (ht:b<a->xs prog fD fC hs H full K ii ((d,.bool true)::Y) w) (f:a<=b->xs prog fD fC hs H full K ii ((d,.bool false)::Y) w):xs prog fD fC hs H full K (⟨some d,.binOp .gtr t x y n,R,pos,af,none⟩::ii) Y w:=T8 g m rfl ht (λu=>f fy)
def mb {t:i9} (g:gh Y x=some (.int k a)) (m:gh Y y=some (.int k b)) (f:b<=a) (h:xs prog fD fC hs H full K ii ((d,.bool true)::Y) w):xs prog fD fC hs H full K (⟨some d,.binOp .geq t x y n,R,pos,af,none⟩::ii) Y w:=SL g m rfl f h
def mw {t:i9} (f:gh Y x=some (.int k a)) (g:gh Y y=some (.int k b)) (n:a<b) (h:xs prog fD fC hs H full K ii ((d,.bool false)::Y) w):xs prog fD fC hs H full K (⟨some d,.binOp .geq t x y m,R,pos,af,none⟩::ii) Y w:=SM f g rfl fy h
def lf {t:i9} (g:gh Y x=some (.int k a)) (m:gh Y y=some (.int k b)) (ht:b<=a->xs prog fD fC hs H full K ii ((d,.bool true)::Y) w) (f:a<b->xs prog fD fC hs H full K ii ((d,.bool false)::Y) w):xs prog fD fC hs H full K (⟨some d,.binOp .geq t x y n,R,pos,af,none⟩::ii) Y w:=T8 g m rfl ht (λu=>f fy)
end
section
variable {P:Program} {fD fC:i9->Bool} {hs:ip Nat} {H:i5->Prop}
def fl (P:Program) (fD fC:i9->Bool) (hs:ip Nat) (H:i5->Prop) (full:Array li) (n:Nat) (F:Nat->Nat) (K:Act->i5->Prop):ip Nat->Act->i5->Prop
 |[],a,w=>ss P fD fC hs H full K [n] a w
 |i::r,a,w=>(F i≠0->ss P fD fC hs H full K (n::i::r) a w)/\(F i≠2->ss P fD fC hs H full (fl P fD fC hs H full n F K r) [i] a w)
def xf (P:Program) (fD fC:i9->Bool) (hs:ip Nat) (H:i5->Prop) (full:Array li) (K:Env->i5->Prop) (on:li):ip li->ip Nat->Env->i5->Prop
 |[],_,Y,w=>xs P fD fC hs H full K [on] Y w
 |o::r,fs,Y,w=>match fs with
  |0::fs=>xs P fD fC hs H full (xf P fD fC hs H full K on r fs) [o] Y w
  |2::_=>xs P fD fC hs H full K (on::o::r) Y w
  |_::fs=>xs P fD fC hs H full K (on::o::r) Y w/\xs P fD fC hs H full (xf P fD fC hs H full K on r fs) [o] Y w
  |[]=>False
inductive Al (full:Array Oper) (F:Nat->Nat):List Nat->List Oper->List Nat->Prop where
 |nil:Al full F [] [] []
 |cons {i:Nat} {o:Oper} {f:Nat} {is:List Nat} {l:List Oper} {fs:List Nat} (ho:full[i]? =some o) (hf:F i=f) (h:Al full F is l fs):Al full F (i::is) (o::l) (f::fs)
def OD {F:Nat->Nat} {K:Env->i5->Prop} {K':Act->i5->Prop} (E:Region.noSelect full=true) (m:∀(i:Nat) (o:li),full[i]? =some o->∀t,o.dst=some t->t<N) (u:∀Y a w,Fits N Y a->H w->K Y w->K' a w):
  ∀{is:ip Nat} {l:ip li} {fs:ip Nat},Al full F is l fs->∀(Y:Env) (a:Act) (w:i5),H w->Fits N Y a->xs P fD fC hs H full K l Y w->ss P fD fC hs H full K' is a w:=by
 intro is l fs y
 induction y with
 |nil=>intro Y a w hw d h;exact u Y a w d hw h
 | @cons i o _ _ _ _ f _ _ n=>
  intro Y a w hw d h;obtain⟨g,C,ht,B⟩:=h;simp only[ss,f];unfold s1;rw[wJ d C];cases g with
  |true=>
   obtain⟨D,x⟩:=ht rfl;rw[if_pos rfl,<-EJ d (λcs b=>Au E i o cs b f) D];exact kp hw (λv w' G I=>n _ _ w' G (d.put o.dst (m i o f) v) I) x
  |false=>
   rw[if_neg fU];exact n _ _ w hw (d.put o.dst (m i o f) undef) (B fx)
end
def ins (n:Nat) (fs:ip Nat):ip Nat:=fs.take n++0::fs.drop n
def Al.app {F:Nat->Nat} {is f:ip Nat} {l':ip li} {fs d:ip Nat} (h:Al full F is l fs) (g:Al full F f l' d):Al full F (is++f) (l++l') (fs++d):=by
 induction h with
 |nil=>exact g
 |cons n m _ t=>exact .cons n m t
section
variable {hs:ip Nat} {H:i5->Prop} {full:Array li} {K:Env->i5->Prop} {Y:Env} {w:i5} {on o:li} {r:ip li} {fs:ip Nat}
def xf2 (h:xs prog fD fC hs H full K (on::o::r) Y w):xf prog fD fC hs H full K on (o::r) (2::fs) Y w:=h
end
section
variable {P:Program} {fD fC:i9->Bool} {hs:ip Nat} {H:i5->Prop}
end
section
structure Fr (S:Nat->Prop) (w w':World):Prop where
 os:w'.os=w.os
 tape:w'.tape=w.tape
 output:w'.output=w.output
 size:w.heap.size<=w'.heap.size
 block:∀k,k<w.heap.size->¬S k->w'.heap[k]? =w.heap[k]?
def hJ:Nat->Prop:=λ_=>False
abbrev Ext:=Fr hJ
theorem Fr.refl (S:Nat->Prop) (w:i5):Fr S w w:=⟨rfl,rfl,rfl,gJ _,λ_ _ _=>rfl⟩
def Fr.mono {S d:Nat->Prop} (h:Fr S w w') (hs:∀k,k<w.heap.size->S k->d k):Fr d w w':=⟨h.os,h.tape,h.output,h.size,λk hk f=>h.block k hk fM⟩
def Fr.trans {S d:Nat->Prop} {a b c:i5} (h:Fr S a b) (k:Fr d b c) (hs:∀j,j<a.heap.size->d j->S j):Fr S a c:=
 ⟨k.os.trans h.os,k.tape.trans h.tape,k.output.trans h.output,ly h.size k.size,λi hi f=>(k.block i (BX hi h.size) fM).trans (h.block i hi f)⟩
theorem Fr.t {S:Nat->Prop} {a b c:i5} (h:Fr S a b) (k:Fr S b c):Fr S a c:=h.trans k λ_ _ d=>d
theorem Fr.te {S:Nat->Prop} {a b c:i5} (h:Fr S a b) (k:Ext b c):Fr S a c:=h.trans k λ_ _ d=>d.elim
theorem Ext.te {S:Nat->Prop} {a b c:i5} (h:Ext a b) (k:Fr S b c) (hs:∀j,j<a.heap.size->¬S j):Ext a c:=h.trans k fM
def Ext.fr {S:Nat->Prop} {a b:i5} (h:Ext a b):Fr S a b:=h.mono λ_ _ d=>d.elim
def Fr.drew (S:Nat->Prop) (w:i5):Fr S w w.drew:=⟨rfl,rfl,rfl,gJ _,λ_ _ _=>rfl⟩
theorem Fr.d {S:Nat->Prop} {a b:i5} (h:Fr S a b):Fr S a b.drew:=h.t (Fr.drew S b)
def Fr.alloc (S:Nat->Prop) (w:i5) (o:Obj):Fr S w (w.alloc o):=⟨rfl,rfl,rfl,by simp,by grind [Below.heap_alloc]⟩
theorem Fr.setCell (S:Nat->Prop) (w:i5) (p:Addr) (u:i6) (h:p.block<w.heap.size->S p.block):Fr S w (w.setCell p u):=
 ⟨rfl,rfl,rfl,by simp,by grind [Below.heap_setCell]⟩
theorem Fr.grown {S:Nat->Prop} {row:Option Nat} (h:w.grownBy w' row) (f:∀k,row=some k->k<w.heap.size->S k):Fr S w w':=
 ⟨h.os,h.tape,h.output,h.size,λk hk d=>h.block k hk fM⟩
def Ext.below (h:Ext w w'):Below w.heap.size w w':=⟨h.os,h.tape,h.output,h.size,λk hk=>h.block k hk λd=>d⟩
theorem Fr.cell {S:Nat->Prop} {w w':i5} (h:Fr S w w') {p:Addr} {v:i6} (hc:w.cell? p=some v) (d:¬S p.block):w'.cell? p=some v:=
 (World.cell?_of_block (w:=w) (h.block p.block (Py w p hc) d)).trans hc
theorem Ext.cell {w w':i5} (h:Ext w w') {p:Addr} {v:i6} (hc:w.cell? p=some v):w'.cell? p=some v:=Fr.cell h hc λd=>d
def fW (w:i5) (g:Nat) (t:i9) (cs:Array i6):Prop:=w.heap[g]? =some (.cells cs t (0,0))
section
variable {w w':i5} {g:Nat} {t:i9} {cs:Array i6}
theorem fW.lt (h:fW w g t cs):g<w.heap.size:=by
 grind [Nat.lt_or_ge,Array.size,fW,Array.getElem?_eq_none]
theorem fW.cell (h:fW w g t cs) (i:Nat):w.cell? ⟨g,i,none⟩=cs[i]? :=by
 grind [fW,World.cell?]
def fW.frozen (h:fW w g t cs) (i:Nat):w.frozen? ⟨g,i,none⟩=false:=by
 grind [fW,World.frozen?]
theorem fW.new (w:i5) (t:i9) (cs:Array i6):fW (w.alloc (.cells cs t)) w.heap.size t cs:=by
 show(w.heap.push _)[w.heap.size]? =_
 simp
def fW.drew (h:fW w g t cs):fW w.drew g t cs:=h
def fW.YR (h:fW w g t cs) (i:Nat) (u:i6):fW (w.setCell ⟨g,i,none⟩ u) g t (cs.setIfInBounds i u):=by
 grind [fW,World.setCell]
def fW.fr {S:Nat->Prop} (h:fW w g t cs) (f:Fr S w w') (d:¬S g):fW w' g t cs:=(f.block g h.lt d).trans h
def fW.ext (h:fW w g t cs) (d:Ext w w'):fW w' g t cs:=h.fr d λf=>f
def fW.Dm {d:Nat} {t':i9} {f:Array i6} (h:fW w g t cs) (m:fW w d t' f) (n:t≠t'):g≠d:=by
 grind [fW]
end
def Row (w:i5) (v:i6) (n:Nat) (vs:ip i6):Prop:=
 ∃A c,v= .slice A n c/\n<=c/\c<=maxLen/\(0<n->∃b o,A=some ⟨b,o,none⟩/\b<w.heap.size/\∀j u,vs[j]? =some u->w.cell? ⟨b,o+j,none⟩=some u)
def Row.fr {S:Nat->Prop} {n:Nat} (h:Row w v n vs) (d:Fr S w w') (g:∀b,v.ownBlock=some b->¬S b):Row w' v n vs:=by
 obtain⟨A,c,rfl,h1,f,h3⟩:=h;refine⟨A,c,rfl,h1,f,λt=>?_⟩;obtain⟨b,o,rfl,m,hc⟩:=h3 t;exact⟨b,o,rfl,BX m d.size,λj u hu=>d.cell (hc j u hu) (g b fx)⟩
def Row.ext {n:Nat} (h:Row w v n vs) (d:Ext w w'):Row w' v n vs:=h.fr d λ_ _ f=>f
def qW (w:i5) (v:i6) (zs:ip Int):Prop:=Row w v zs.length (zs.map (Value.int .i64))
def XL (w:i5) (v:i6) (zs:ip Int):Prop:=Row w v zs.length (zs.map (Value.int .u8))
def pn {zs:ip Int} (d:0<zs.length->∃b o,A=some ⟨b,o,none⟩/\b<w.heap.size/\∀j u,(zs.map (Value.int k))[j]? =some u->gc w b (o+j) u) {i:Nat} (hi:i<zs.length):
  ∃b o z,A=some ⟨b,o,none⟩/\b<w.heap.size/\zs[i]? =some z/\gc w b (o+i) (.int k z)/\zs.drop i=z::zs.drop (i+1):=by
 obtain⟨b,o,e,f,hc⟩:=d fy;exact⟨b,o,zs[i],e,f,fM,hc i _ (by simp[hi]),lX⟩
variable {hs:ip Nat} {H:i5->Prop} {full:Array li} {K:Env->i5->Prop} {ii:ip li} {Y:Env} {w:i5} {d:Tmp} {dst:Option Tmp} {R:i9} {pos:String} {af:Array Edge}
def aeY {t:i9} {b n:Nat} {j:Int} (f:gh Y x=some (.S b o n c)) (hi:gh Y i=some (.int k j)) (g:es t=some 1) (h0:0<=j) (h1:j<n)
  (h:xs prog fD fC hs H full K ii ((d,.pointer (some ⟨b,o+j.toNat,none⟩))::Y) w):xs prog fD fC hs H full K (⟨some d,.indexAddr t x i,R,pos,af,none⟩::ii) Y w:=
 xix f hi g h0 h1 (by rw[oR];exact h)
def pg {t:i9} {b n:Nat} (f:gh Y x=some (.S b o n c)) (hi:gh Y i=some (.int k (j:Int))) (g:es t=some 1) (h1:j<n)
  (h:xs prog fD fC hs H full K ii ((d,.pointer (some ⟨b,o+j,none⟩))::Y) w):xs prog fD fC hs H full K (⟨some d,.indexAddr t x i,R,pos,af,none⟩::ii) Y w:=
 aeY f hi g fy fy h
def ir {t f:i9} {i:Nat} (d:fW w g f cs) (n:gh Y x=some (.pointer (some ⟨g,i,none⟩))) (u:gh Y y=some v) (ht:one t=true) (m:v.oneCell'=true) (hi:decide (i<cs.size)=true)
  (h:∀w',fW w' g f (cs.setIfInBounds i v)->Fr (· =g) w w'->xs prog fD fC hs H full K ii Y w') (hH:∀w',Fr (· =g) w w'->H w':=by intros;trivial):xs prog fD fC hs H full K (⟨none,.store t x y,R,pos,af,none⟩::ii) Y w:=by
 have fY:i<cs.size:=by simpa using hi
 have hc:w.cell? ⟨g,i,none⟩=some cs[i]:=by rw[d.cell];simp[fY]
 exact xst n u ht m hc (d.frozen i) (h _ (d.YR i v) (by grind [Fr.setCell])) (by grind [Fr.setCell])
def JV {t:i9} {m:kw} (f:gh Y x=some (.int k a)) (g:gh Y y=some (.int m b)) (h0:0<=b) (h1:b<=k.bits) (u:k.wrap (a*2^b.toNat)=r)
  (h:xs prog fD fC hs H full K ii ((d,.int k r)::Y) w):xs prog fD fC hs H full K (⟨some d,.binOp .shl t x y n,R,pos,af,none⟩::ii) Y w:=by
 refine jE f g (eqGuard_at_int ..) (λw'=>?_) h
 simp_all [binOp_shl,shift_shl]
def XA {t:i9} {m:kw} (f:gh Y x=some (.int k a)) (g:gh Y y=some (.int m b)) (h0:0<=b) (h1:b<=k.bits)
  (h:xs prog fD fC hs H full K ii ((d,.int k (a/2^b.toNat))::Y) w):xs prog fD fC hs H full K (⟨some d,.binOp .shr t x y n,R,pos,af,none⟩::ii) Y w:=by
 refine jE f g (eqGuard_at_int ..) (λw'=>?_) h
 simp_all [binOp_shr,shift_shr]
def LI {op:BinOp} {t:i9} (m:gh Y x=some (.int k a)) (n:gh Y y=some (.int k b)) (f:op= .and\/op= .or\/op= .xor) (g:bits op k a b=r)
  (h:xs prog fD fC hs H full K ii ((d,.int k r)::Y) w):xs prog fD fC hs H full K (⟨some d,.binOp op t x y u,R,pos,af,none⟩::ii) Y w:=by
 refine jE m n (eqGuard_at_int ..) (λw'=>?_) h;subst g;rcases f with rfl|rfl|rfl<;>simp_all [binOp_and,intBits_and,binOp_or,intBits_or,binOp_xor,intBits_xor]
def QJ {t u:i9} (f:gh Y x=some (.int k a)) (g:gh Y y=some (.int k b))
  (h:xs prog fD fC hs H full K ii ((d,.int k (min a b))::Y) w):xs prog fD fC hs H full K (⟨some d,.call {callee:= .builtin .min,args:=⟨[x,y]⟩,argTypes:=⟨[t,u]⟩},R,pos,af,none⟩::ii) Y w:=by
 refine gW fx (by grind [gd,Op.operands,Call.operands]) ⟨_,λw'=>?_,h⟩;have e:(if b<a then b else a)=min a b:=fy
 simp_all [execOp,resolve,invoke,builtin,Builtin.min_,Builtin.min2,fR]
def Pk {t u:i9} (f:gh Y x=some (.int k a)) (g:gh Y y=some (.int k b))
  (h:xs prog fD fC hs H full K ii ((d,.int k (max a b))::Y) w):xs prog fD fC hs H full K (⟨some d,.call {callee:= .builtin .max,args:=⟨[x,y]⟩,argTypes:=⟨[t,u]⟩},R,pos,af,none⟩::ii) Y w:=by
 refine gW fx (by grind [gd,Op.operands,Call.operands]) ⟨_,λw'=>?_,h⟩;have e:(if b>a then b else a)=max a b:=fy
 simp_all [execOp,resolve,invoke,builtin,Builtin.max_,Builtin.max2,fR]
def p2 (b:Int):Int:=2^b.toNat
def X3 (b:Int):1<=p2 b:=by
 have:(0:Int)<2^b.toNat:=Int.pow_pos fU;unfold p2;omega
def aaO {k:Nat} (d:b<=k):p2 b<=2^k:=by
 unfold p2;have h1:b.toNat<=k:=fy;have:(2:Nat)^b.toNat<=2^k:=A8 fU h1
 exact_mod_cast this
end
section
structure x4 (t e:TypeId) (z:Value) (size bytes:Nat):Prop where
 u:prog.underlying t=some (.slice e)
 i:∃i,prog.info? e=some i/\i.zero=some z/\i.size=size/\i.bytes=bytes
def Nq {t:i9} {z:i6} {size:Nat} (hu:prog.underlying t=some (.slice e)) (h:(prog.info? e).map (λi=>(i.zero,i.size,i.bytes))=some (some z,size,bytes)):x4 t e z size bytes:=by
 refine⟨hu,?_⟩;cases hi:prog.info? e with
 |none=>rw[hi]at h;cases h
 |some i=>
  rw[hi]at h;simp only[tT,CU,P0]at h;exact⟨i,rfl,h⟩
variable {hs:ip Nat} {H:i5->Prop} {full:Array li} {K:Env->i5->Prop} {ii:ip li} {Y:Env} {w:i5} {d:Tmp} {dst:Option Tmp} {R:i9} {pos:String} {af:Array Edge}
def xw {op:Op} (f:gd Y ⟨dst,op,R,pos,af,none⟩=true) (hc:cls fD fC op= .w) (g:(execOp (ev Y) ⟨dst,op,R,pos,af,none⟩).run prog w= .ok (.value v) w')
  (h:xs prog fD fC hs H full K ii (put Y dst v) w') (hH:H w'):xs prog fD fC hs H full K (⟨dst,op,R,pos,af,none⟩::ii) Y w:=by
 refine gW fx f ?_;have d:ja fD fC hs ⟨dst,op,R,pos,af,none⟩= .w:=by unfold ja;rw[hc]
 rw[d];show out prog _ _
 rw[g];exact⟨hH,h⟩
def WA {t:i9} {z:i6} {n:Int} (f:x4 t e z 1 bytes) (E:z.cells= #[z]) (G:gh Y x=some (.I n)) (I:gh Y y=some (.I n)) (h0:0<=n) (g:bytes*n.toNat<=281474976710656) (F:n<=9223372036854775807)
  (h:∀w',fW w' w.heap.size e (Array.replicate n.toNat z)->Ext w w'->w'.heap.size=w.heap.size+1->xs prog fD fC hs H full K ii ((d,.S w.heap.size 0 n.toNat n.toNat)::Y) w') (hH:∀w',Ext w w'->H w':=by intros;trivial):
  xs prog fD fC hs H full K (⟨some d,.makeSlice t x y,R,pos,af,none⟩::ii) Y w:=by
 obtain⟨hu,i,hi,D,hs,u⟩:=f;obtain⟨m,rfl⟩:=lZ h0
 have C:=run_make (P:=prog) w t e i z hu hi D .i64 .i64 m m fy fy (by
  rw[u];simp only[je]at g;have B:((bytes*m:Nat):Int)<=281474976710656:=fy
  rwa[Int.natCast_mul]at B) fy
 simp only[je]at C h;refine xw (by grind [gd,Op.operands]) fx (v:= .S w.heap.size 0 m m) (w':=w.alloc (.cells (Array.replicate m z) e)) ?_ (h _ (fW.new _ _ _) (Fr.alloc _ _ _) iB) (hH _ (Fr.alloc _ _ _))
 have hm:madeCells z.cells (m*i.size)=Array.replicate m z:=by
  rw[E,hs,oR];apply G8;rw[toList_madeCells_one];simp
 simp_all [execOp,fR]
def evp (Y:Env):Nat->ip (Nat×i7)->Option (ip i6)
 |_,[]=>some []
 |k,(j,x)::r=>match Nat.beq j k,gh Y x,evp Y (k+1) r with
  |true,some v,some vs=>some (v::vs)
  |_,_,_=>none
theorem yY:∀{l:ip (Nat×i7)} {k:Nat} {vs:ip i6},evp Y k l=some vs->(l.map λp=>(p.1,ev Y p.2))=(vs.zipIdx k).map (λp=>(p.2,p.1))/\∀p∈l,(gh Y p.2).isSome=true
 |[],k,vs,h=>by injection h with h;simp_all
 | (j,x)::r,k,vs,h=>by
  simp only[evp]at h;split at h
  .rename_i v n g m d;injection h with h;subst h
   obtain⟨h1,f⟩:=yY d
   grind [Nat.eq_of_beq_eq_true,List.zipIdx_cons,fR]
  .cases h
def FG {t:i9} {z:i6} {n:Nat} {parts:ip (Nat×i7)} (f:x4 t e z 1 bytes) (m:evp Y 0 parts=some vs) (g:vs.length=n) (h0:0<n) (C:n<=16777216) (h1:∀u∈vs,u.oneCell'=true)
  (h:∀w',fW w' w.heap.size e vs.toArray->Ext w w'->w'.heap.size=w.heap.size+1->xs prog fD fC hs H full K ii ((d,.S w.heap.size 0 n n)::Y) w') (hH:∀w',Ext w w'->H w':=by intros;trivial):
  xs prog fD fC hs H full K (⟨some d,.buildSlice t n parts.toArray,R,pos,af,none⟩::ii) Y w:=by
 obtain⟨hu,i,hi,y,hs,B⟩:=f;obtain⟨he,D⟩:=yY m;refine xw (by grind [gd,Op.operands,List.all_eq_true]) fx (v:= .S w.heap.size 0 n n) (w':=w.alloc (.cells vs.toArray e)) ?_ (h _ (fW.new _ _ _) (Fr.alloc _ _ _) iB) (hH _ (Fr.alloc _ _ _))
 have E:=run_buildSlice (P:=prog) w t e n ((parts.map λp=>(p.1,ev Y p.2)).toArray) vs.toArray i z hu hi y (by rw[hs];omega) (by rw[hs];omega) (by
  rw[hs];show Instr.fill _ _ (parts.map λp=>(p.1,ev Y p.2))=_
  rw[he]
  exact Great.fill_flat _ _ (λv x=>by have:=h1 v x;cases v<;>first|rfl|cases this) (by simp[g]))
 simp_all [ev,execOp]
def hP {t:i9} (f:gh Y x=some v)
  (h:∀w',fW w' w.heap.size t v.cells->Ext w w'->w'.heap.size=w.heap.size+1->xs prog fD fC hs H full K ii ((d,.P w.heap.size)::Y) w') (hH:∀w',Ext w w'->H w':=by intros;trivial):
  xs prog fD fC hs H full K (⟨some d,.box t x,R,pos,af,none⟩::ii) Y w:=by
 refine xw (by grind [gd,Op.operands]) fx (v:= .P w.heap.size) (w':=w.alloc (.cells v.cells t)) ?_ (h _ (fW.new _ _ _) (Fr.alloc _ _ _) iB) (hH _ (Fr.alloc _ _ _));simp[execOp,fR f,Instr.box,newVar,newRow]
def gx {t:i9} {z:i6} (f:((prog.info? t).bind (·.zero))=some z)
  (h:∀w',fW w' w.heap.size t z.cells->Ext w w'->w'.heap.size=w.heap.size+1->xs prog fD fC hs H full K ii ((d,.P w.heap.size)::Y) w') (hH:∀w',Ext w w'->H w':=by intros;trivial):
  xs prog fD fC hs H full K (⟨some d,.alloc t,R,pos,af,none⟩::ii) Y w:=by
 refine xw (by simp[gd,Op.operands]) fx (v:= .P w.heap.size) (w':=w.alloc (.cells z.cells t)) ?_ (h _ (fW.new _ _ _) (Fr.alloc _ _ _) iB) (hH _ (Fr.alloc _ _ _));cases hi:prog.info? t with
 |none=>rw[hi]at f;cases f
 |some i=>
  rw[hi]at f;simp only[Cy]at f;simp[execOp,Instr.alloc,zeroValue,typeInfo,hi,f,newVar,newRow]
def W6 (Y:Env):ip (Nat×i7)->Option (ip (Nat×i6))
 |[]=>some []
 |(j,x)::r=>match gh Y x,W6 Y r with
  |some v,some vs=>some ((j,v)::vs)
  |_,_=>none
theorem vx:∀{l:ip (Nat×i7)} {vs:ip (Nat×i6)},W6 Y l=some vs->(l.map λp=>(p.1,ev Y p.2))=vs/\∀p∈l,(gh Y p.2).isSome=true
 |[],vs,h=>by injection h with h;grind
 | (j,x)::r,vs,h=>by
  simp only[W6]at h;split at h
  .rename_i v m g d;injection h with h;subst h
   obtain⟨h1,f⟩:=vx d
   grind [fR]
  .cases h
def oQ {t:i9} {parts:ip (Nat×i7)} {vs:ip (Nat×i6)} {cells:Array i6} (m:W6 Y parts=some vs) (g:prog.built t vs=some cells)
  (h:xs prog fD fC hs H full K ii ((d,.agg cells)::Y) w):xs prog fD fC hs H full K (⟨some d,.build t parts.toArray,R,pos,af,none⟩::ii) Y w:=by
 obtain⟨he,u⟩:=vx m;refine gW fx (by grind [gd,Op.operands,List.all_eq_true]) ⟨.agg cells,λw'=>?_,h⟩;have n:=run_build (P:=prog) w' t ((parts.map λp=>(p.1,ev Y p.2)).toArray) cells (by show prog.built t (parts.map λp=>(p.1,ev Y p.2))=_;rw[he];exact g);have f:(parts.toArray.map λx=>match x with|(i,x)=>(i,ev Y x))=(parts.map λp=>(p.1,ev Y p.2)).toArray:=by simp
 simp only[execOp];rw[f];simp[n]
def zz {t:i9} {i:TypeInfo} {n:Nat} {lo hi:Option i6} {l h:Nat} (hu:prog.underlying t=some (.slice e)) (g:prog.info? e=some i)
  (m:lo=none/\l=0\/∃k,lo=some (.int k (l:Int))) (f:hi=none/\h=n\/∃k,hi=some (.int k (h:Int))) (h1:l<=h) (d:h<=c) (w:i5):
  (Instr.sliceAt t (.slice A n c) lo hi none).run prog w= .ok (.slice (if c=l then A else A.map (·.add (l*i.size))) (h-l) (c-l)) w:=by
 rcases m with⟨rfl,rfl⟩|⟨k,rfl⟩<;>rcases f with⟨rfl,rfl⟩|⟨u,rfl⟩<;>
  simp[Instr.sliceAt,Instr.slice,run_underlying hu,Instr.sliceBounds,Instr.sliceBound,asIntOf,sizeOf,typeInfo,g]<;>(first|omega|skip)
 rw[if_pos d,if_pos h1]
def aeq {t:i9} {f:kw} {n:Nat} {l h:Int} (u:es t=some z) (E:gh Y x=some (.slice A n c)) (C:gh Y lo=some (.int k l)) (B:gh Y hi=some (.int f h)) (h0:0<=l) (h1:l<=h) (v:h<=c)
  (hc:∀g,(∀b o,A=some ⟨b,o,none⟩->l<c->g=some ⟨b,o+l.toNat*z,none⟩)->xs prog fD fC hs H full K ii ((d,.slice g (h.toNat-l.toNat) (c-l.toNat))::Y) w):
  xs prog fD fC hs H full K (⟨some d,.slice t x (some lo) (some hi) none,R,pos,af,none⟩::ii) Y w:=by
 obtain⟨e,i,hu,m,D⟩:=mY u;obtain⟨l,rfl⟩:=lZ h0;obtain⟨h,rfl⟩:=lZ (Int.le_trans h0 h1);refine gW fx (by grind [gd,Op.operands]) ⟨_,λw'=>?_,hc (if c=l then A else A.map (·.add (l*i.size))) (λb o y fY=>?_)⟩
 .have:=zz (A:=A) (n:=n) (c:=c) (lo:=some (.int k l)) (hi:=some (.int f h)) (l:=l) (h:=h) hu m (.inr ⟨k,rfl⟩) (.inr ⟨f,rfl⟩) fy fy w'
  simp_all [execOp,fR]
 grind [Addr.add_lit]
def PJ {t:i9} {n:Nat} {l:Int} (m:es t=some z) (C:gh Y x=some (.slice A n c)) (y:gh Y lo=some (.int k l)) (h0:0<=l) (h1:l<=n) (u:n<=c)
  (hc:∀f,(∀b o,A=some ⟨b,o,none⟩->l<c->f=some ⟨b,o+l.toNat*z,none⟩)->xs prog fD fC hs H full K ii ((d,.slice f (n-l.toNat) (c-l.toNat))::Y) w):
  xs prog fD fC hs H full K (⟨some d,.slice t x (some lo) none none,R,pos,af,none⟩::ii) Y w:=by
 obtain⟨e,i,hu,g,B⟩:=mY m;obtain⟨l,rfl⟩:=lZ h0;refine gW fx (by grind [gd,Op.operands]) ⟨_,λw'=>?_,hc (if c=l then A else A.map (·.add (l*i.size))) (λb o v fY=>?_)⟩
 .have:=zz (A:=A) (n:=n) (c:=c) (lo:=some (.int k l)) (hi:=none) (l:=l) (h:=n) hu g (.inr ⟨k,rfl⟩) (.inl ⟨rfl,rfl⟩) fy fy w'
  simp_all [execOp,fR]
 grind [Addr.add_lit]
def Yt {t:i9} {f:kw} {n:Nat} {h:Int} (u:es t=some z) (D:gh Y x=some (.slice A n c)) (B:gh Y hi=some (.int f h)) (h1:0<=h) (v:h<=c)
  (hc:∀g,(∀b o,A=some ⟨b,o,none⟩->0<c->g=some ⟨b,o,none⟩)->xs prog fD fC hs H full K ii ((d,.slice g h.toNat c)::Y) w):
  xs prog fD fC hs H full K (⟨some d,.slice t x none (some hi) none,R,pos,af,none⟩::ii) Y w:=by
 obtain⟨e,i,hu,m,C⟩:=mY u;obtain⟨h,rfl⟩:=lZ h1;refine gW fx (by grind [gd,Op.operands]) ⟨_,λw'=>?_,hc (if c=0 then A else A.map (·.add (0*i.size))) (λb o y fY=>?_)⟩
 .have:=zz (A:=A) (n:=n) (c:=c) (lo:=none) (hi:=some (.int f h)) (l:=0) (h:=h) hu m (.inl ⟨rfl,rfl⟩) (.inr ⟨f,rfl⟩) fy fy w'
  simp_all [execOp,fR]
 grind [Addr.add_lit]
end
section
theorem kJ {t n:Nat} (h:get kA t=some n):((∃fs,prog.underlying t=some (.struct fs))\/∃m e,prog.underlying t=some (.array m e))/\∃i,prog.info? t=some i/\i.size=n:=by
 have:=ld.1 MP _ (get_mem h);unfold R5 at this;dsimp only at this;split at this<;>simp_all
def KU {t d:i9} (n:fW w g d cs) (ht:get kA t=some cs.size):(loadVar t ⟨g,0,none⟩).run prog w= .ok (.agg cs) w:=by
 obtain⟨h1|h1,i,h3,f⟩:=kJ ht
 .obtain⟨fs,h1⟩:=h1;exact run_loadVar_row (P:=prog) w g d t cs (0,0) _ n h1 fx (by rw[h3];simp[f])
 .obtain⟨m,e,h1⟩:=h1;exact run_loadVar_row (P:=prog) w g d t cs (0,0) _ n h1 fx (by rw[h3];simp[f])
def P3 {t n:Nat} (h:get Vp t=some n) (d:get U6 t=some z):∃e i,prog.underlying t=some (.array n e)/\prog.info? e=some i/\i.size=z/\1<n:=by
 have:=ld.1 NZ _ (get_mem h)
 grind [RF]
variable {hs:ip Nat} {H:i5->Prop} {full:Array li} {K:Env->i5->Prop} {ii:ip li} {Y:Env} {w:i5} {d:Tmp} {dst:Option Tmp} {R:i9} {pos:String} {af:Array Edge}
def abu {t:i9} {b n:Nat} (u:gh Y x=some (.pointer (some ⟨b,o,none⟩))) (hi:gh Y i=some (.int k (j:Int))) (m:get Vp t=some n) (v:get U6 t=some 1) (h1:j<n)
  (h:xs prog fD fC hs H full K ii ((d,.pointer (some ⟨b,o+j,none⟩))::Y) w):xs prog fD fC hs H full K (⟨some d,.indexAddr t x i,R,pos,af,none⟩::ii) Y w:=by
 obtain⟨e,B,f,h3,g,y⟩:=P3 m v;refine gW fx (by grind [gd,Op.operands]) ⟨_,λw'=>?_,h⟩;simp[execOp,fR u,fR hi,Instr.indexAt,asIntOf,Instr.sureAddr,run_underlying f,sizeOf,typeInfo,h3,g,nE]
 grind
def Uf {t:i9} {b n:Nat} {f:Int} (j q:Nat) (u:gh Y x=some (.pointer (some ⟨b,o,none⟩))) (hi:gh Y i=some (.int k f)) (m:get Vp t=some n) (v:get U6 t=some 1) (g:f=j) (hq:o+j=q) (h1:j<n)
  (h:xs prog fD fC hs H full K ii ((d,.pointer (some ⟨b,q,none⟩))::Y) w):xs prog fD fC hs H full K (⟨some d,.indexAddr t x i,R,pos,af,none⟩::ii) Y w:=by
 subst g;subst hq;exact abu u hi m v h1 h
def kt {t:i9} {b n:Nat} {f:Int} (j q:Nat) (m:gh Y x=some (.S b o n c)) (hi:gh Y i=some (.int k f)) (u:es t=some 1) (g:f=j) (hq:o+j=q) (h1:j<n)
  (h:xs prog fD fC hs H full K ii ((d,.pointer (some ⟨b,q,none⟩))::Y) w):xs prog fD fC hs H full K (⟨some d,.indexAddr t x i,R,pos,af,none⟩::ii) Y w:=by
 subst g;subst hq;exact pg m hi u h1 h
def gR {t f:i9} (m:fW w g f cs) (u:gh Y x=some (.P g)) (ht:get kA t=some cs.size)
  (h:xs prog fD fC hs H full K ii ((d,.agg cs)::Y) w) (hm:n4 hs (some d)=false:=by rfl):xs prog fD fC hs H full K (⟨some d,.load t x,R,pos,af,none⟩::ii) Y w:=by
 refine gW fx (by grind [gd,Op.operands]) ?_;have n:ja fD fC hs ⟨some d,.load t x,R,pos,af,none⟩= .r:=by simp[ja,cls,hm]
 rw[n];refine⟨.agg cs,?_,h⟩;simp[execOp,fR u,Instr.loadAt,Instr.sureAddr,KU m ht]
def gY {t d:i9} {old:Array i6} (f:fW w g d old) (D:gh Y x=some (.P g)) (E:gh Y y=some (.agg cs)) (ht:get kA t=some cs.size) (B:old.size=cs.size) (h1:cs.all (·.oneCell')=true)
  (h:∀w',fW w' g d cs->Fr (· =g) w w'->xs prog fD fC hs H full K ii Y w') (hH:∀w',Fr (· =g) w w'->H w':=by intros;trivial):xs prog fD fC hs H full K (⟨none,.store t x y,R,pos,af,none⟩::ii) Y w:=by
 obtain⟨_,i,n,u⟩:=kJ ht;refine gW fx (by grind [gd,Op.operands]) ?_;have C:=run_storeVar_row (P:=prog) w g d t old cs f (by rw[n];simp[u]) B h1;have m:Fr (· =g) w (w.setRow g cs):=⟨rfl,rfl,rfl,by simp[World.setRow],by grind [World.setRow]⟩
 have v:fW (w.setRow g cs) g d cs:=by
  unfold fW at f|-;simp[World.setRow,tP,f]
 show out prog ((execOp (ev Y) ⟨none,.store t x y,R,pos,af,none⟩).run prog w) _
 have e:(execOp (ev Y) ⟨none,.store t x y,R,pos,af,none⟩).run prog w= .ok .skip (w.setRow g cs):=by
  simp[execOp,fR D,fR E,Instr.storeAt,Instr.sureAddr,C]
 rw[e];exact⟨hH _ m,h _ v m⟩
def CP {fn:Func} {d:i6->i5->Prop} {k:ip It} {t:Tmp} (x:fn.results= #[.cell t m]) (y:look Y t=some (.P g)) (u:fW w g n cs) (ht:get kA m=some cs.size) (h:d (.agg cs) w):
  T prog fn d (.code .ret::k) Y w:=λa f=>by
 refine wp_ret (mZ (show bodyPost prog fn (SQ d) .ret a w from⟨f.1,.agg cs,?_,_,rfl,h⟩) k);have v:a.tmps[t]?.getD undef= .P g:=by rw[f.2.2 t _ y];rfl
 simp[results,x,v,asAddr,KU u ht]
end
def val (d:ip Nat):Nat:=d.foldl (λa b=>2*a+b) 0
def Bits (d:ip Nat):Prop:=∀b∈d,b<2
def abD (l:ip Nat):Nat:=val (l.take 8++List.replicate (8-l.length) 0)
def pk (d:ip Nat):ip Int:=(List.range ((d.length+7)/8)).map λi=>(abD (d.drop (8*i)):Int)
section
variable {hs:ip Nat} {H:i5->Prop} {full:Array li} {K:Env->i5->Prop} {ii:ip li} {Y:Env} {w:i5} {d:Tmp} {dst:Option Tmp} {R:i9} {pos:String} {af:Array Edge}
def xa {f:FuncId} {t:Tmp} {cap:Array i6} {d:Array i9} {S:i6->i5->Prop} (m:gh Y (.tmp t)=some (.func (.func f) #[] cap)) (x:O2 Y args=some vs) (C:bit qR f=true) (B:fQ prog f (vs.toArray++cap) w S)
  (h:∀v w',S v w'->xs prog fD fC hs H full K ii (put Y dst v) w') (hH:∀v w',S v w'->H w':=by intros;trivial):xs prog fD fC hs H full K (⟨dst,.call {callee:= .value (.tmp t),args:=args.toArray,argTypes:=d},R,pos,af,none⟩::ii) Y w:=by
 obtain⟨h1,u⟩:=oh x;obtain⟨fn,D,g,E⟩:=HR C;refine gW fx (by simpa[gd,Op.operands,Call.operands,m]using u) ?_;show out prog ((execOp (ev Y) ⟨dst,.call {callee:= .value (.tmp t),args:=args.toArray,argTypes:=d},R,pos,af,none⟩).run prog w) _
 have e:(execOp (ev Y) ⟨dst,.call {callee:= .value (.tmp t),args:=args.toArray,argTypes:=d},R,pos,af,none⟩).run prog w= .ok (.enter f (vs.toArray++cap)) w:=by
  have y:¬fn.body=none:=by intro e;rw[e]at g;cases g
  have F:¬fn.name= "runtime.NumGoroutine" :=by simpa using E
  have n:ev Y (.tmp t)= .func (.func f) #[] cap:=fR m;simp[execOp,resolve,n,Deferred.ofValue,invoke,callFunc,h1,D,F,y]
 rw[e];exact pS B λe w' ⟨v,he,k⟩=>⟨v,he,hH v w' k,h v w' k⟩
def U9 {f:FuncId} {fn:Func} {e:Array i6->Sem i6} {d:Array i9} (u:prog.funcs[f]? =some fn) (x:(fn.name== "runtime.NumGoroutine")=false) (t:fn.body.isNone=true) (y:Extern.findNext fn=none) (he:Extern.find fn=some e)
  (n:O2 Y args=some vs) (B:(e vs.toArray).run prog w= .ok v w) (h:xs prog fD fC hs gS full K ii (put Y dst v) w):
  xs prog fD fC hs gS full K (⟨dst,.call {callee:= .value (.func f),args:=args.toArray,argTypes:=d},R,pos,af,none⟩::ii) Y w:=by
 obtain⟨h1,m⟩:=oh n;refine xw (v:=v) (w':=w) (by simpa[gd,Op.operands,Call.operands,gh]using m) fx ?_ h True.intro;have g:ev Y (.func f)= .func (.func f) #[] #[]:=rfl;have h3:(callFunc f vs.toArray).run prog w= .ok (.value v) w:=by rw[run_callFunc_extern u x t y he,B];rfl
 simp[execOp,resolve,g,Deferred.ofValue,invoke,h1,h3]
end
def jh {fn:Func} {d:i6->i5->Prop} {k:ip It} {Y:Env} {c:Code} (h:T prog fn d (.code c:: .wu (Er (λ_ _ _ _=>False))::k) Y w):T prog fn d (.code (.scope c)::k) Y w:=
 Jj (λ_ _ _ _=>False) (λ_ _ _ _ h=>h.elim) (λ_ _ _ _ _ _ h=>h.elim) (λ_=>h)
def p5 {fn:Func} {d:i6->i5->Prop} {k:ip It} {Y:Env} {α:Type} (E:α->Env) (f:α->i5->Prop) {c:Code} (h1:T prog fn d (.code c:: .fin (λY w=>∃y,Sub (E y) Y/\f y w)::k) Y w) (m:∀y w',f y w'->T prog fn d k (E y) w'):T prog fn d (.code c::k) Y w:=λa n=>by
 refine wp_mono (h1 a n) ?_;intro e g w' hq;cases e with
 |normal=>obtain⟨x,t,y,hs,u⟩:=hq;exact m y w' u g (t.sub hs)
 |exit id=>exact hq
 |goto l=>exact hq
 |ret=>exact hq
 |panic v=>exact hq
 |outgrown=>exact hq
def vO (w:i5) (g:Nat) (l:ip (Int×Int)):Prop:=∃es clock,w.heap[g]? =some (.map es clock)/\es.toList.map (λe=>(e.key,e.val))=l.map λp=>(Value.I p.1,Value.I p.2)
def Bv (k:Int):ip (Int×Int)->Option Int
 |[]=>none
 |p::r=>if p.1=k then some p.2 else Bv k r
theorem vO.lt {l:ip (Int×Int)} (h:vO w g l):g<w.heap.size:=by
 obtain⟨es,clock,h1,_⟩:=h
 grind
def vO.fr {S:Nat->Prop} {l:ip (Int×Int)} (h:vO w g l) (m:Fr S w w') (f:¬S g):vO w' g l:=by
 have fY:=h.lt;obtain⟨es,clock,h1,d⟩:=h;exact⟨es,clock,(m.block g fY f).trans h1,d⟩
def vO.ext {l:ip (Int×Int)} (h:vO w g l) (d:Ext w w'):vO w' g l:=h.fr d λf=>f
theorem se (k:Int):∀(es:ip MapEntry) (l:ip (Int×Int)) (i:Nat),es.map (λe=>(e.key,e.val))=l.map (λp=>(Value.I p.1,Value.I p.2))->
  ∃r,Instr.findNow (.int .i64) (.I k) es i=some r/\r.map (·.2)=(Bv k l).map (Value.int .i64)
 |[],[],_,_=>⟨none,rfl,rfl⟩
 |[],_::_,_,h=>by simp at h
 |_::_,[],_,h=>by simp at h
 | e::es,p::l,i,h=>by
  simp only[jj,rv,P0]at h;obtain⟨⟨h1,d⟩,h3⟩:=h;have hs:Instr.sameNow (.int .i64) (.I k) e.key=some (k==p.1):=by rw[h1];rfl
  by_cases hk:p.1=k
  .simp_all [Instr.findNow,Bv]
  .obtain⟨r,f,g⟩:=se k es l (i+1) h3
   grind [Bv,Instr.findNow]
section
variable {hs:ip Nat} {H:i5->Prop} {full:Array li} {K:Env->i5->Prop} {ii:ip li} {Y:Env} {w:i5} {d:Tmp} {R:i9} {pos:String} {af:Array Edge}
def ZT {t:i9} (h:∀w',vO w' w.heap.size []->Ext w w'->w'.heap.size=w.heap.size+1->xs prog fD fC hs gS full K ii ((d,.map (some w.heap.size))::Y) w'):
  xs prog fD fC hs gS full K (⟨some d,.makeMap t none,R,pos,af,none⟩::ii) Y w:=by
 refine xw (by simp[gd,Op.operands]) fx (v:= .map (some w.heap.size)) (w':=w.alloc (.map #[] 0)) ?_ (h _ ⟨#[],0,by
  show(w.heap.push _)[w.heap.size]? =_
  simp,rfl⟩ (Fr.alloc _ _ _) iB) True.intro
 simp[execOp,run_makeMap]
def YN {w:i5} {l:ip (Int×Int)} (u:vO w g l) (t d f:i9) (hu:prog.underlying t=some (.map d f)) (hk:prog.underlying d=some (.int .i64)) (C:(zeroValue f).run prog w= .ok (.I 0) w) (k:Int):
  (Instr.lookup t (.map (some g)) (.I k) true).run prog w= .ok (.tuple #[.I ((Bv k l).getD 0),.bool (Bv k l).isSome]) w:=by
 obtain⟨es,clock,h1,n⟩:=u;obtain⟨r,h3,m⟩:=se k es.toList l 0 n;have hc:(Instr.checkKey es.isEmpty 10000 d (.I k)).run prog w= .ok () w:=by grind [MapKept.run_checkKey,MapKept.IsKey]
 have y:(getObj g).run prog w= .ok (.map es clock) w:=by simp[getObj,Sem.run,h1]
 have x:(Instr.findKey d (.I k) es.toList).run prog w= .ok r w:=by
  simp[Instr.findKey,run_underlying hk,h3]
 simp only[Instr.lookup,tg,run_underlying hu,tp,y,hc,P7,x];cases r with
 |none=>
  have:Bv k l=none:=by simpa using m.symm
  simp_all
 |some q=>
  obtain⟨j,v⟩:=q;simp only[tT]at m;cases B:Bv k l<;>simp_all
def xlk {t f:i9} {l:ip (Int×Int)} {k:Int} (hu:prog.underlying t=some (.map m f)) (hk:prog.underlying m=some (.int .i64)) (C:∀w',(zeroValue f).run prog w'= .ok (.I 0) w') (n:vO w g l) (u:gh Y x=some (.map (some g))) (B:gh Y y=some (.I k))
  (h:xs prog fD fC hs gS full K ii ((d,.tuple #[.I ((Bv k l).getD 0),.bool (Bv k l).isSome])::Y) w):xs prog fD fC hs gS full K (⟨some d,.lookup t x y true,R,pos,af,none⟩::ii) Y w:=by
 refine xw (v:= .tuple #[.I ((Bv k l).getD 0),.bool (Bv k l).isSome]) (w':=w) (by grind [gd,Op.operands]) fx ?_ h True.intro;simp[execOp,fR u,fR B,YN n t m f hu hk (C w) k]
def aaa {t d:i9} {z:i7} {l:ip (Int×Int)} {k v:Int} (hu:prog.underlying t=some (.map d u)) (hk:prog.underlying d=some (.int .i64)) (n:vO w g l) (C:Bv k l=none) (F:gh Y x=some (.map (some g))) (G:gh Y y=some (.I k)) (H:gh Y z=some (.I v))
  (h:∀w',vO w' g (l++[(k,v)])->Fr (· =g) w w'->xs prog fD fC hs gS full K ii Y w'):xs prog fD fC hs gS full K (⟨none,.mapUpdate t x y z,R,pos,af,none⟩::ii) Y w:=by
 have fY:=n.lt;obtain⟨es,clock,h1,f⟩:=n;obtain⟨r,h3,m⟩:=se k es.toList l 0 f
 have D:r=none:=by
  rw[C]at m;cases r with
  |none=>rfl
  |some _=>cases m
 subst D;have hc:(Instr.checkKey false 10000 d (.I k)).run prog w= .ok () w:=by grind [MapKept.run_checkKey,MapKept.IsKey]
 have E:(Instr.mapUpdate t (.map (some g)) (.I k) (.I v)).run prog w= .ok () {w with heap:=w.heap.setIfInBounds g (.map (es.push {key:= .I k,val:= .I v,born:=clock}) (clock+1))}:=by
  simp[Instr.mapUpdate,run_underlying hu,VN h1,hc,WB hk h3,VU _ h1,Result.andThen]
 refine gW fx (by grind [gd,Op.operands]) ?_;have B:ja fD fC hs ⟨none,.mapUpdate t x y z,R,pos,af,none⟩= .w:=rfl;rw[B];show out prog ((execOp (ev Y) ⟨none,.mapUpdate t x y z,R,pos,af,none⟩).run prog w) _
 have e:(execOp (ev Y) ⟨none,.mapUpdate t x y z,R,pos,af,none⟩).run prog w= .ok .skip {w with heap:=w.heap.setIfInBounds g (.map (es.push {key:= .I k,val:= .I v,born:=clock}) (clock+1))}:=by
  simp[execOp,fR F,fR G,fR H,E]
 rw[e];refine⟨True.intro,h _ ⟨es.push {key:= .I k,val:= .I v,born:=clock},clock+1,?_,?_⟩ ⟨rfl,rfl,rfl,?_,?_⟩⟩
 .grind
 .simp[f]
 .grind
 grind
end
def hL {Y:Env} {fn:Func} {f:i6->i5->Prop} {k:ip It} {t u:Tmp} {v:i9} {d:i6} (B:fn.results= #[.cell t n,.tmp u]) (D:look Y t=some (.P g)) (hu:look Y u=some d) (x:fW w g v cs) (ht:get kA n=some cs.size) (h:f (.tuple #[.agg cs,d]) w):
  T prog fn f (.code .ret::k) Y w:=λa m=>by
 refine wp_ret (mZ (show bodyPost prog fn (SQ f) .ret a w from⟨m.1,.tuple #[.agg cs,d],?_,_,rfl,h⟩) k);have y:a.tmps[t]?.getD undef= .P g:=by rw[m.2.2 t _ D];rfl
 have C:a.tmps[u]?.getD undef=d:=by rw[m.2.2 u _ hu];rfl
 simp[results,B,y,C,asAddr,KU x ht]
def Dp (l:ip Int):ip (Int×Int):=l.zipIdx.map λp=>(p.1,(p.2:Int))
theorem QM (k:Int):∀(l:ip Int) (n:Nat),Bv k ((l.zipIdx n).map λp=>(p.1,(p.2:Int)))=if k∈l then some ((n+l.idxOf k:Nat):Int)else none
 |[],n=>by simp[Bv]
 | x::l,n=>by
  rw[G9,jj,Bv]
  by_cases h:x=k
  .subst h;simp
  .have d:¬k=x:=λe=>h e.symm
   rw[if_neg h,QM k l (n+1)]
   grind
def AO (k:Int) (l:ip Int):Bv k (Dp l)=if k∈l then some (l.idxOf k:Int)else none:=by
 grind [QM,Dp]
def JE (l:ip Int) (k:Int):Dp (l++[k])=Dp l++[(k,(l.length:Int))]:=by
 simp[Dp,List.zipIdx_append]
section
def gK (w:i5) (B:Nat) (e:i9) (z:Nat) (v:i6) (n:Nat) (vs:ip i6):Prop:=w.ownsRow B e z v n vs
section
variable {w w':i5} {B:Nat} {e:i9} {z n:Nat} {v:i6} {vs:ip i6}
theorem gK.len (h:gK w B e z v n vs):vs.length=n*z:=h.1
def gK.row (h:gK w B e z v n vs):Row w v n vs:=by
 obtain⟨h1,f⟩:=h;rcases f with⟨rfl,y⟩|⟨g,cap,cur,rfl,D,d,h3,m,C,x⟩
 .rw[y];exact⟨none,0,rfl,gJ _,by unfold maxLen;omega,λd=>absurd d fy⟩
 .have fY:g<w.heap.size:=fW.lt (t:=e) (cs:=cur) d;refine⟨some ⟨g,0,none⟩,cap,rfl,h3,m,λ_=>⟨g,0,rfl,fY,λj u hu=>?_⟩⟩;rw[iM];have:=fW.cell (t:=e) (cs:=cur) d j;rw[this];have E:j<vs.length:=(jR.1 hu).1;rw[<-x,GH fy]at hu;simpa using hu
theorem gK.nil (w:i5) (B:Nat) (e:i9) (z:Nat):gK w B e z (.slice none 0 0) 0 []:=World.ownsRow_nil w B e z
def gK.fr {S:Nat->Prop} (h:gK w B e z v n vs) (m:Fr S w w') (f:∀b,v.ownBlock=some b->¬S b):gK w' B e z v n vs:=by
 obtain⟨h1,d⟩:=h;refine⟨h1,?_⟩;rcases d with d|⟨g,cap,cur,rfl,u,x,r⟩
 .exact .inl d
 .exact .inr ⟨g,cap,cur,rfl,u,fW.fr (t:=e) (cs:=cur) x m (f g fx),r⟩
def gK.ext (h:gK w B e z v n vs) (d:Ext w w'):gK w' B e z v n vs:=h.fr d λ_ _ f=>f
def gK.gO (h:gK w B e z v n vs) {b:Nat} (d:v.ownBlock=some b):B<=b/\b<w.heap.size:=World.ownsRow.lt h b d
def gK.mono (h:gK w B e z v n vs) (m:f<=B):gK w f e z v n vs:=by
 obtain⟨h1,d⟩:=h;refine⟨h1,?_⟩;rcases d with d|⟨g,cap,cur,rfl,t,r⟩
 .exact .inl d
 .exact .inr ⟨g,cap,cur,rfl,fy,r⟩
def gK.form (h:gK w B e z v n vs):∃A c,v= .slice A n c/\n<=c/\c<=9223372036854775807:=by
 obtain⟨A,c,h1,d,h3,_⟩:=h.row;exact⟨A,c,h1,d,h3⟩
def gK.go (h:gK w B e z v n vs) (h0:0<n):∃g c,v= .S g 0 n c/\B<=g/\g<w.heap.size/\n<=c/\c<=9223372036854775807/\∀j u,vs[j]? =some u->w.cell? ⟨g,j,none⟩=some u:=by
 obtain⟨A,c,rfl,h1,t,y⟩:=h.row;obtain⟨b,o,rfl,C,hc⟩:=y h0;obtain⟨_,x⟩:=h;rcases x with⟨d,_⟩|⟨g,cap,cur,d,D,E,r⟩
 .cases d
 .injection d with d _ f
  injection d with d
  injection d with d m
  subst d;subst f;subst m;exact⟨b,c,rfl,D,C,h1,t,λj u hu=>by have:=hc j u hu;rwa[iM]at this⟩
end
theorem Ip {P:Program} {w:i5} {b o:Nat}:∀(n i:Nat) (acc:Array i6) (cs:ip i6),cs.length=n->(∀j u,cs[j]? =some u->gc w b (o+(i+j)) u)->
  (loadCellsFrom ⟨b,o,none⟩ i n acc).run P w= .ok (acc++cs.toArray) w
 |0,i,acc,cs,d,_=>by
  obtain rfl:cs=[]:=BZ d;simp[loadCellsFrom]
 |n+1,i,acc,[],d,_=>by simp at d
 | n+1,i,acc,c::cs,d,h=>by
  have h0:w.cell? ⟨b,o+i,none⟩=some c:=by simpa using h 0 c rfl
  have g:=Ip (P:=P) (w:=w) (b:=b) (o:=o) n (i+1) (acc.push c) cs (by simpa using d) (λj u hu=>by
   have:=h (j+1) u (by simpa using hu)
   rwa[show i+(j+1)=i+1+j from by omega]at this)
  have f:(load (Addr.add ⟨b,o,none⟩ i)).run P w= .ok c w:=by
   rw[nE];simp[load,Sem.run,h0]
  simp only[loadCellsFrom,tg,f,tp,g];simp
def Kl {t:i9} {b:Nat} {cs:ip i6} (ht:get kA t=some cs.length) (h:∀j u,cs[j]? =some u->gc w b (o+j) u):(loadVar t ⟨b,o,none⟩).run prog w= .ok (.agg cs.toArray) w:=by
 have g:=Ip (P:=prog) (w:=w) (b:=b) (o:=o) cs.length 0 #[] cs rfl (λj u hu=>by rw[iM];exact h j u hu);obtain⟨h1,i,h3,d⟩:=kJ ht
 have f:(isAgg t).run prog w= .ok true w:=by
  unfold isAgg;rcases h1 with⟨fs,h1⟩|⟨m,e,h1⟩<;>simp[run_underlying h1]
 have n:(sizeOf t).run prog w= .ok cs.length w:=by simp[sizeOf,typeInfo,h3,d]
 unfold loadVar;simp only[tg,f,tp,if_true,n];unfold loadCells;simp[g]
variable {hs:ip Nat} {H:i5->Prop} {full:Array li} {K:Env->i5->Prop} {ii:ip li} {Y:Env} {w:i5} {d:Tmp} {dst:Option Tmp} {R:i9} {pos:String} {af:Array Edge}
def hV {t:i9} {b:Nat} {cs:ip i6} (f:gh Y x=some (.pointer (some ⟨b,o,none⟩))) (ht:get kA t=some cs.length) (hc:∀j u,cs[j]? =some u->gc w b (o+j) u)
  (h:xs prog fD fC hs H full K ii ((d,.agg cs.toArray)::Y) w) (hm:n4 hs (some d)=false:=by rfl):xs prog fD fC hs H full K (⟨some d,.load t x,R,pos,af,none⟩::ii) Y w:=by
 refine gW fx (by simp[gd,Op.operands,f]) ?_;have g:ja fD fC hs ⟨some d,.load t x,R,pos,af,none⟩= .r:=by simp[ja,cls,hm]
 rw[g];exact⟨.agg cs.toArray,by simp[execOp,fR f,Instr.loadAt,Instr.sureAddr,Kl ht hc],h⟩
def sf {t:i9} {b:Nat} {cs:ip i6} (f:gh Y x=some (.pointer (some ⟨b,o,none⟩))) (ht:get kA t=some cs.length) (hc:∀w',H w'->∀j u,cs[j]? =some u->gc w' b (o+j) u)
  (h:xs prog fD fC hs H full K ii ((d,.agg cs.toArray)::Y) w) (hm:n4 hs (some d)=true:=by rfl):xs prog fD fC hs H full K (⟨some d,.load t x,R,pos,af,none⟩::ii) Y w:=by
 refine gW fx (by simp[gd,Op.operands,f]) ?_;have g:ja fD fC hs ⟨some d,.load t x,R,pos,af,none⟩= .h:=by simp[ja,cls,hm]
 rw[g];exact⟨.agg cs.toArray,λw' m=>by simp[execOp,fR f,Instr.loadAt,Instr.sureAddr,Kl ht (hc w' m)],h⟩
def gH {t:i9} {b n:Nat} {f:Int} (j q:Nat) (m:gh Y x=some (.S b o n c)) (hi:gh Y i=some (.int k f)) (u:es t=some z) (g:f=j) (hq:o+j*z=q) (h1:j<n)
  (h:xs prog fD fC hs H full K ii ((d,.pointer (some ⟨b,q,none⟩))::Y) w):xs prog fD fC hs H full K (⟨some d,.indexAddr t x i,R,pos,af,none⟩::ii) Y w:=by
 subst g;subst hq;exact xix m hi u fy fy (by rw[je];exact h)
def jH {t:i9} {z:i6} {size B m n:Nat} {s:i7} {news:ip i6} (O:x4 t e z size bytes) (ab:z.cells.size=size) (Z:0<size) (E:gh Y s=some v) (y:gK w B e size v n vs) (F:gh Y x=some (.slice A m c))
  (X:Row w (.slice A m c) m news) (U:news.length=m*size) (h1:∀u∈news,u.oneCell'=true) (M:n+m<=maxLen) (S:(n+m)*bytes<=140737488355328) (Q:B<=w.heap.size)
  (h:∀f w',gK w' B e size f (n+m) (vs++news)->Fr (λb=>v.ownBlock=some b) w w'->(f.ownBlock=v.ownBlock\/f.ownBlock=some w.heap.size)->xs prog fD fC hs H full K ii ((d,f)::Y) w') (hH:∀w',Fr (λb=>v.ownBlock=some b) w w'->H w':=by intros;trivial):
  xs prog fD fC hs H full K (⟨some d,.call {callee:= .builtin .append,args:=⟨[s,x]⟩,argTypes:=⟨[t,t]⟩},R,pos,af,none⟩::ii) Y w:=by
 obtain⟨hu,i,hi,aa,qa0,qb9⟩:=O
 have key:∃f w',(Builtin.append_ #[t,t] R #[v,.slice A m c]).run prog w= .ok f w'/\w'.ownsRow B e size f (n+m) (vs++news)/\w.grownBy w' v.ownBlock/\(f.ownBlock=v.ownBlock\/f.ownBlock=some w.heap.size):=by
  rcases yc m with h0|h0
  .subst h0;have V:news=[]:=BZ fy;subst V;refine⟨v,w,?_,by unfold gK at y;simpa using y,World.grownBy.refl w _,.inl fx⟩;rcases y.2 with⟨rfl,aj⟩|⟨g,cap,cur,rfl,_,_,W,_⟩
   .cases A<;>simp[Builtin.append_,run_underlying hu,sizeOf,typeInfo,hi,Builtin.lenOf,Builtin.firstCells,loadCells,loadCellsFrom]
   .cases A<;>simp[Builtin.append_,run_underlying hu,sizeOf,typeInfo,hi,Builtin.lenOf,Builtin.firstCells,W,storeCells,loadCells,loadCellsFrom]
  .obtain⟨ad,ae,he,ai,ah,N⟩:=X;injection he with G _ I
   subst G;subst I;obtain⟨b,o,rfl,ag,T⟩:=N h0;obtain⟨f,w',D,C,h3,_,L⟩:=run_append_own_at (P:=prog) w B t R e i z size bytes hu hi aa qa0 qb9 ab Z v n vs y ⟨b,o,none⟩ m c news U (λj u hu=>by rw[nE];exact T j u hu) h1 M S Q;exact⟨f,w',D,C,h3,L⟩
 obtain⟨f,w',D,C,h3,J⟩:=key;refine xw (by simp[gd,Op.operands,Call.operands,E,F]) fx (v:=f) (w':=w') ?_ (h f w' C (Fr.grown h3 λk hk _=>hk) J) (hH _ (Fr.grown h3 λk hk _=>hk));simp[execOp,resolve,invoke,builtin,fR E,fR F,D]
def abZ {t:i9} {z:i6} {size:Nat} (g:x4 t e z size bytes)
  (h:∀w',gK w' w.heap.size e size (.S w.heap.size 0 0 0) 0 []->Ext w w'->w'.heap.size=w.heap.size+1->xs prog fD fC hs H full K ii ((d,.S w.heap.size 0 0 0)::Y) w') (hH:∀w',Ext w w'->H w':=by intros;trivial):
  xs prog fD fC hs H full K (⟨some d,.buildSlice t 0 #[],R,pos,af,none⟩::ii) Y w:=by
 obtain⟨hu,i,hi,n,hs,m⟩:=g;have f:=fW.new w e #[];refine xw (by simp[gd,Op.operands]) fx (v:= .S w.heap.size 0 0 0) (w':=w.alloc (.cells #[] e)) ?_ (h _ ⟨by simp,.inr ⟨_,0,#[],rfl,gJ _,f,gJ _,iF _,by simp,by simp⟩⟩ (Fr.alloc _ _ _) iB) (hH _ (Fr.alloc _ _ _));simp[execOp,Instr.buildSlice,run_underlying hu,sizeOf,typeInfo,hi,Instr.fill,newRow];have:Array.map (λ_:Nat=>(default:i6)) (Array.range 0)= #[]:=by simp
 first|rw[this]|simp
def Q8 {size:Nat} {init:Array i6} (n:cs.size=size) (h0:0<size) (hi:init.size=size):Instr.fill (λi=>some (i*size,size)) init [(0,Value.agg cs)]=some cs:=by
 obtain⟨r,d,u,hk⟩:=Great.fill_dense (s:=size) h0 [.agg cs] 0 init (λv t=>by rw[jS.1 t];exact n) (by rw[hi];simp);have f:(([Value.agg cs].zipIdx 0).map λx=>(x.2,x.1))=[(0,Value.agg cs)]:=rfl;rw[f]at d;rw[d]
 congr 1
 apply WG;intro k;rw[hk k]
 by_cases fY:k<size
 .rw[if_pos (by simp;omega)];have g:k/size=0:=LV fY;have m:k% size=k:=uJ fY;simp[g,m,Value.cells]
 .rw[if_neg (by simp;omega),FB fy,FB fy]
def nV {t:i9} {z:i6} {size:Nat} (m:x4 t e z size bytes) (g:gh Y x=some (.agg cs)) (n:cs.size=size) (h0:0<size) (C:size<=10000)
  (h:∀w',fW w' w.heap.size e cs->Ext w w'->w'.heap.size=w.heap.size+1->xs prog fD fC hs H full K ii ((d,.S w.heap.size 0 1 1)::Y) w') (hH:∀w',Ext w w'->H w':=by intros;trivial):
  xs prog fD fC hs H full K (⟨some d,.buildSlice t 1 #[(0,x)],R,pos,af,none⟩::ii) Y w:=by
 obtain⟨hu,i,hi,y,f,B⟩:=m;refine xw (by simp[gd,Op.operands,g]) fx (v:= .S w.heap.size 0 1 1) (w':=w.alloc (.cells cs e)) ?_ (h _ (fW.new _ _ _) (Fr.alloc _ _ _) iB) (hH _ (Fr.alloc _ _ _))
 have u:=run_buildSlice (P:=prog) w t e 1 #[(0,.agg cs)] cs i z hu hi y (by rw[f];omega) (by rw[f];omega) (by
  rw[f];exact Q8 n h0 iB)
 simp[execOp,fR g,u]
end
section
open Go Ieee
def fw (n:Nat):Nat:=FloatKind.f64.nearest (n:Int)
def EZ:fw 0=0:=by decide+kernel
def Mk {n:Nat} (h0:0<n):2^n.log2<=n/\n<2^(n.log2+1):=⟨Nat.log2_self_le fy,Nat.lt_log2_self⟩
def PU {n:Nat} (h0:0<n) (y:n<2^52):fw n=(n.log2+1022)*2^52+n*2^(52-n.log2):=by
 have E:n.log2<52:=(Nat.log2_lt fy).2 y;obtain⟨h1,t⟩:=Mk h0
 have d:(max ((0:Int)+n.log2-(52:Nat)) Ieee.double.leastPlace)=(n.log2:Int)-52:=by
  have:Ieee.double.leastPlace= -1074:=by decide+kernel
  rw[this];omega
 unfold fw FloatKind.nearest FloatKind.encode FloatKind.format Format.write;dsimp only;unfold Format.nearest;have B:¬((n:Int).natAbs=0):=fy;rw[if_neg B];have C:(n:Int).natAbs=n:=fy;have D:(decide ((n:Int)<0))=false:=by simp
 rw[C,D];have v:Ieee.double.fractionBits=52:=rfl;rw[v,d];have x:Ieee.double.leastPlace= -1074:=by decide+kernel
 rw[x];dsimp only;have f:((0:Int)-((n.log2:Int)-52)).toNat=52-n.log2:=fy;have g:((n.log2:Int)-52-0).toNat=0:=fy;rw[f,g]
 have m:Toward.even.cut false (n<<<(52-n.log2)) 0=n*2^(52-n.log2):=by
  unfold Toward.cut;simp[Da,Nat.mod_one]
 rw[m];have e4:((n.log2:Int)-52- -1074).toNat=n.log2+1022:=fy;rw[e4];have u:Ieee.double.binade=2^52:=rfl;have w:Ieee.double.infRung=2047*2^52:=by decide+kernel
 rw[u,w]
 have hk:n*2^(52-n.log2)<2^53:=by
  calc n*2^(52-n.log2)<2^(n.log2+1)*2^(52-n.log2):=K3 t (Ag _)
   _=2^53:=by rw[<-F4];congr 1;omega
 unfold Format.word;rw[if_neg fU];rw[tD];omega
def Ej {n:Nat} (d:n<2^52):∃m k:Nat,FloatKind.f64.decode (fw n)= .number false m (-(k:Int))/\m=n*2^k:=by
 by_cases h0:n=0
 .subst h0;obtain⟨k,hk⟩:∃k:Nat,k=1074:=⟨_,rfl⟩;exact⟨0,k,by rw[hk];decide+kernel,(tN _).symm⟩
 .have h0:0<n:=fy;have w:n.log2<52:=(Nat.log2_lt fy).2 d;obtain⟨h1,v⟩:=Mk h0
  have C:2^52<=n*2^(52-n.log2):=by
   calc 2^52=2^n.log2*2^(52-n.log2):=by rw[<-F4];congr 1;omega
    _<=_:=qz _ h1
  have hk:n*2^(52-n.log2)<2^53:=by
   calc n*2^(52-n.log2)<2^(n.log2+1)*2^(52-n.log2):=K3 v (Ag _)
    _=2^53:=by rw[<-F4];congr 1;omega
  refine⟨n*2^(52-n.log2),52-n.log2,?_,rfl⟩;rw[PU h0 d];obtain⟨L,x⟩:∃L,L=n.log2:=⟨_,rfl⟩;obtain⟨m,hm⟩:∃m,m=n*2^(52-n.log2):=⟨_,rfl⟩;rw[<-hm]at C hk|-;rw[<-x]at w|-;have D:Ieee.double.leastPlace= -1074:=by decide+kernel
  have B:Ieee.double.infRung=2047*2^52:=by decide+kernel
  have G:Ieee.double.signWeight=2^63:=by decide+kernel
  have y:Ieee.double.binade=2^52:=rfl;show Ieee.double.read _=_
  unfold Format.read;rw[D,B,G,y];dsimp only;have f:(L+1022)*2^52+m<2^63:=fy;have E:((L+1022)*2^52+m)% 2^63=(L+1022)*2^52+m:=uJ f;have F:((L+1022)*2^52+m)/2^63=0:=LV f;rw[E,F];rw[if_neg (show ¬(L+1022)*2^52+m<2^52 by omega),if_pos (show(L+1022)*2^52+m<2047*2^52 by omega)];have g:((L+1022)*2^52+m)% 2^52=m-2^52:=fy;have t:((L+1022)*2^52+m)/2^52=L+1023:=fy;rw[g,t];have u:(-1074+((L+1023-1:Nat):Int))= -((52-L:Nat):Int):=fy;have e4:2^52+(m-2^52)=m:=fy;rw[u,e4];rfl
def Ra {n:Nat} (u:n<2^52):(FloatKind.f64.decode (fw n)).toInt .zero=some (n:Int):=by
 obtain⟨m,k,h1,t⟩:=Ej u;rw[h1];unfold Datum.toInt Datum.integral;dsimp only;have d:(-(k:Int)).toNat=0:=fy;have f:(- -(k:Int)).toNat=k:=fy;rw[d,f,Nat.shiftLeft_zero]
 have g:Toward.zero.cut false m k=n:=by
  unfold Toward.cut;dsimp only;rw[t]
  by_cases h0:n=0
  .subst h0;simp
  .have v:(n*2^k).log2≥k:=by
    have:=Nat.log2_self_le (n:=n*2^k) (by have:=Ag k;exact Nat.mul_ne_zero h0 fy);rw[ge_iff_le,Nat.le_log2 (by have:=Ag k;exact Nat.mul_ne_zero h0 fy)];exact Nat.le_mul_of_pos_left _ fy
   rw[tD fy,Da,Nat.one_mul,Nat.mul_div_cancel _ (Ag k)];rfl
 rw[g];simp[signed]
theorem zM {a b:Nat} (w:a<2^52) (x:b<2^52):FloatKind.f64.format.order (fw a) (fw b)=some (compare a b):=by
 obtain⟨m,i,h1,u⟩:=Ej w;obtain⟨n,j,h3,v⟩:=Ej x;show(FloatKind.f64.decode (fw a)).order (FloatKind.f64.decode (fw b))=_
 rw[h1,h3];unfold Datum.order;dsimp only;have f:(-(i:Int)-min (-(i:Int)) (-(j:Int))).toNat=max i j-i:=fy;have g:(-(j:Int)-min (-(i:Int)) (-(j:Int))).toNat=max i j-j:=fy;rw[f,g]
 have t:signed false m (max i j-i)=((a*2^max i j:Nat):Int):=by
  simp only[signed,Hb,if_false,Da,u,Nat.mul_assoc,<-F4]
  congr 3;omega
 have e4:signed false n (max i j-j)=((b*2^max i j:Nat):Int):=by
  simp only[signed,Hb,if_false,Da,v,Nat.mul_assoc,<-F4]
  congr 3;omega
 rw[t,e4]
 congr 1
 have d:=Ag (max i j);obtain⟨p,y⟩:∃p,p=2^max i j:=⟨_,rfl⟩;rw[<-y]at d|-;rcases zw a b with h|h|h
 .rw[(DV).2 h];have:=K3 h d;exact Int.compare_eq_lt.2 (by exact_mod_cast this)
 .subst h;simp
 .rw[(CF).2 h];have:=K3 h d;exact Int.compare_eq_gt.2 (by exact_mod_cast this)
end
abbrev fL:=ip UInt8
def su (l:fL):ByteArray:=⟨l.toArray⟩
abbrev _root_.Go.Value.U (l:fL):i6:=.string (su l)
theorem jt (l:fL):(su l).toList=l:=by
 rw[ByteArray.toList_eq];simp[su]
def ky (l:fL):(su l).size=l.length:=by show l.toArray.size=_;simp
theorem XZ {a b:fL} (h:su a=su b):a=b:=by
 have:=congrArg ByteArray.toList h;rwa[jt,jt]at this
def W3 (b:ByteArray):∃l,b=su l:=⟨b.data.toList,by apply ByteArray.ext;simp[su]⟩
def Xv (a b:fL):su a++su b=su (a++b):=by
 apply ByteArray.ext;simp[su]
def wN (zs:fL) (l h:Nat):(su zs).extract l h=su ((zs.drop l).take (h-l)):=by
 unfold su;rw[ByteArray.extract_mk]
 try simp
section
variable {hs:ip Nat} {H:i5->Prop} {full:Array li} {K:Env->i5->Prop} {ii:ip li} {Y:Env} {w:i5} {d:Tmp} {R:i9} {pos:String} {af:Array Edge}
def iE {t:i9} {l:fL} (f:gh Y x=some (.U l)) (ht:fC t=true) (h:xs prog fD fC hs H full K ii ((d,.I (l.length:Int))::Y) w):
  xs prog fD fC hs H full K (⟨some d,.call {callee:= .builtin .len,args:=⟨[x]⟩,argTypes:=⟨[t]⟩},R,pos,af,none⟩::ii) Y w:=
 IV f (by simp[lnV,ht,ky]) h
def ie {t:i9} {c:UInt8} (f:gh Y x=some (.U [c])) (ht:fC t=true) (h:xs prog fD fC hs H full K ii ((d,.I 1)::Y) w):
  xs prog fD fC hs H full K (⟨some d,.call {callee:= .builtin .len,args:=⟨[x]⟩,argTypes:=⟨[t]⟩},R,pos,af,none⟩::ii) Y w:=iE f ht h
def qN {t:i9} {a b:fL} (g:gh Y x=some (.U a)) (m:gh Y y=some (.U b)) (u:a.length+b.length<=9223372036854775807)
  (h:xs prog fD fC hs H full K ii ((d,.U (a++b))::Y) w):xs prog fD fC hs H full K (⟨some d,.binOp .add t x y n,R,pos,af,none⟩::ii) Y w:=by
 refine jE g m (eqGuard_at_string ..) (λw'=>?_) h;rw[binOp_string_add]
 have f:¬(((su a).size+(su b).size:Nat):Int)>IntKind.i64.max:=by
  rw[ky,ky];simp[IntKind.max,IntKind.signed,IntKind.bits];omega
 simp only[Op.stringOp,if_neg f,Xv];rfl
def hG (op:BinOp) (a b:fL):Option Bool:=match op with
 | .eql=>some (decide (a=b))
 | .neq=>some (!decide (a=b))
 | .lss=>some (Op.bytesLess a b)
 | .leq=>some (Op.bytesLess a b||decide (a=b))
 | .gtr=>some (!(Op.bytesLess a b||decide (a=b)))
 | .geq=>some (!Op.bytesLess a b)
 |_=>none
theorem nU (a b:fL):(a==b)=decide (a=b):=by
 by_cases h:a=b
 .simp[h]
 .simp[h]
def gk {op:BinOp} {t:i9} {a b:fL} {r:Bool} (g:gh Y x=some (.U a)) (m:gh Y y=some (.U b)) (f:hG op a b=some r)
  (h:xs prog fD fC hs H full K ii ((d,.bool r)::Y) w):xs prog fD fC hs H full K (⟨some d,.binOp op t x y n,R,pos,af,none⟩::ii) Y w:=by
 refine jE g m (eqGuard_at_string ..) (λw'=>?_) h;unfold hG at f;split at f<;>first|(injection f with f;subst f;first|(rw[binOp_string_eql,jt,jt,nU];try rfl)|(rw[binOp_string_neq,jt,jt,nU];try rfl)|(rw[binOp_string_lss,jt,jt];try rfl)|(rw[binOp_string_leq,jt,jt,nU];try rfl)|(rw[binOp_string_gtr,jt,jt,nU];try rfl)|(rw[binOp_string_geq,jt,jt];try rfl))|cases f
def Lx {t:i9} {u:kw} {zs:fL} {jl n:Int} (l h:Nat) (ht:fC t=true) (m:gh Y x=some (.U zs)) (g:gh Y lo=some (.int k jl)) (f:gh Y hi=some (.int u n)) (el:jl=l) (v:n=h) (h1:l<=h) (y:h<=zs.length)
  (hc:xs prog fD fC hs H full K ii ((d,.U ((zs.drop l).take (h-l)))::Y) w):
  xs prog fD fC hs H full K (⟨some d,.slice t x (some lo) (some hi) none,R,pos,af,none⟩::ii) Y w:=by
 subst el;subst v;refine gW fx (by simp[gd,Op.operands,m,g,f]) ⟨_,λw'=>?_,hc⟩;have:=run_slice_string (P:=prog) w' t (su zs) k u l h (h7 ht) fy fy (by rw[ky];omega);rw[je,je,wN]at this;simp[execOp,fR m,fR g,fR f,run_sliceAt_string w' t _ _ _ _ (h7 ht),this]
def VM {t:i9} {zs:fL} {jl:Int} (l:Nat) (ht:fC t=true) (g:gh Y x=some (.U zs)) (f:gh Y lo=some (.int k jl)) (el:jl=l) (h1:l<=zs.length)
  (hc:xs prog fD fC hs H full K ii ((d,.U (zs.drop l))::Y) w):
  xs prog fD fC hs H full K (⟨some d,.slice t x (some lo) none none,R,pos,af,none⟩::ii) Y w:=by
 subst el;refine gW fx (by simp[gd,Op.operands,g,f]) ⟨_,λw'=>?_,hc⟩;have:=run_slice_string_l (P:=prog) w' t (su zs) (h7 ht) k l fy (by rw[ky];omega);rw[je,ky,wN,p8 (by rw[lY];omega)]at this;simp[execOp,fR g,fR f,run_sliceAt_string w' t _ _ _ _ (h7 ht),this]
def xI {t:i9} {n:kw} {zs:fL} {m:Int} (h:Nat) (ht:fC t=true) (g:gh Y x=some (.U zs)) (f:gh Y hi=some (.int n m)) (u:m=h) (v:h<=zs.length)
  (hc:xs prog fD fC hs H full K ii ((d,.U (zs.take h))::Y) w):
  xs prog fD fC hs H full K (⟨some d,.slice t x none (some hi) none,R,pos,af,none⟩::ii) Y w:=by
 subst u;refine gW fx (by simp[gd,Op.operands,g,f]) ⟨_,λw'=>?_,hc⟩;have:=run_slice_string_h (P:=prog) w' t (su zs) (h7 ht) n h fy (by rw[ky];omega);rw[je,wN,wK,Mz]at this;simp[execOp,fR g,fR f,run_sliceAt_string w' t _ _ _ _ (h7 ht),this]
def XS {P:Program} {w:i5} {t:i9} {zs:fL} {z:UInt8} (ht:P.underlying t=some .string) (d:zs[j]? =some z):(Instr.index t (.U zs) (.int k (j:Int))).run P w= .ok (.int .u8 (z.toNat:Int)) w:=by
 have fY:j<zs.length:=(jR.1 d).1;have m:=ky zs
 have f:∀(i:Nat),i=j->∀(h:i<(su zs).size),(su zs)[i]'h=z:=by
  rintro i rfl h;have:(su zs)[i]=(su zs).data[i]'h:=rfl;rw[this];have g:zs[i]=z:=jb ((j9 fY).symm.trans d);simp only[su,List.getElem_toArray];exact g
 rw[run_index_string w t (su zs) k (j:Int) ht,dif_pos ⟨fy,by omega⟩,f _ fy]
def QS {t:i9} {zs:fL} {g:Int} {z:UInt8} (j:Nat) (ht:fC t=true) (f:gh Y x=some (.U zs)) (hi:gh Y i=some (.int k g)) (m:g=j) (u:zs[j]? =some z)
  (h:xs prog fD fC hs H full K ii ((d,.int .u8 (z.toNat:Int))::Y) w):xs prog fD fC hs H full K (⟨some d,.index t x i,R,pos,af,none⟩::ii) Y w:=by
 subst m;refine gW fx (by simp[gd,Op.operands,f,hi]) ⟨_,λw'=>?_,h⟩;have n:=XS (P:=prog) (w:=w') (t:=t) (k:=k) (h7 ht) u;simp[execOp,fR f,fR hi,n]
end
def ik:fL->fL×fL×Bool
 |[]=>([],[],false)
 |c::r=>if c=47 then([],r,true)else(c::(ik r).1,(ik r).2.1,(ik r).2.2)
def hC:fL->ip fL
 |[]=>[[]]
 |c::r=>if c=47 then[]::hC r else match hC r with
  |h::t=>(c::h)::t
  |[]=>[[c]]
theorem rO:∀s:fL,(ik s).2.2=true->(ik s).1.length+1+(ik s).2.1.length=s.length
 |[],h=>by cases h
 | c::r,h=>by
  by_cases hc:c=47
  .grind [ik]
  .simp only[ik,if_neg hc]at h|-;have:=rO r h
   grind
theorem yM:∀s:fL,(ik s).2.2=false->(ik s).1=s/\(ik s).2.1=[]
 |[],_=>⟨rfl,rfl⟩
 | c::r,h=>by
  by_cases hc:c=47
  .grind [ik]
  .simp only[ik,if_neg hc]at h|-;obtain⟨h1,d⟩:=yM r h
   grind
theorem zU:∀s:fL,(ik s).2.2=true->s=(ik s).1++47::(ik s).2.1
 |[],h=>by cases h
 | c::r,h=>by
  by_cases hc:c=47
  .simp[ik,hc]
  .simp only[ik,if_neg hc]at h|-;have:=zU r h
   grind
theorem kU:∀s:fL,hC s≠[]
 |[]=>by simp[hC]
 |c::r=>by
  grind [hC]
theorem vF:∀s:fL,hC s=(ik s).1::(if(ik s).2.2 then hC (ik s).2.1 else[])
 |[]=>rfl
 | c::r=>by
  by_cases hc:c=47
  .grind [hC,ik]
  .rw[hC,if_neg hc,vF r]
   grind [ik]
theorem wq:∀(s x:fL),x∈hC s->(47:UInt8)∉x
 |[],x,h=>by grind [hC]
 | c::r,x,h=>by
  by_cases hc:c=47
  .rw[hC,if_pos hc]at h;rcases iu.1 h with rfl|h
   .simp
   .exact wq r x h
  .rw[hC,if_neg hc]at h;split at h
   .rename_i h0 t e;rcases iu.1 h with rfl|h
    .rw[iu,not_or];exact⟨λe=>hc e.symm,wq r _ (by rw[e];simp)⟩
    .exact wq r x (by rw[e];simp[h])
   grind
def jm:ip fL->fL
 |[]=>[]
 |[x]=>x
 |x::y::r=>x++47::jm (y::r)
theorem A3 (x:fL) {l:ip fL} (h:l≠[]):jm (x::l)=x++47::jm l:=by
 cases l with
 |nil=>exact absurd rfl h
 |cons y r=>rfl
theorem yZ:∀s:fL,jm (hC s)=s
 |[]=>rfl
 | c::r=>by
  have d:=yZ r
  by_cases hc:c=47
  .grind [hC,A3,kU]
  .rw[hC,if_neg hc];split
   .rename_i h0 t e;rw[e]at d;cases t<;>grind [jm]
   grind [absurd,kU]
theorem A1:∀(x r:fL),(47:UInt8)∉x->hC (x++47::r)=x::hC r
 |[],r,_=>by grind [hC]
 |c::x,r,h=>by
  rw[iu,not_or]at h;rw[rf,hC,if_neg (λe=>h.1 e.symm),A1 x r h.2]
theorem yH:∀(x:fL),(47:UInt8)∉x->hC x=[x]
 |[],_=>rfl
 |c::x,h=>by
  rw[iu,not_or]at h;rw[hC,if_neg (λe=>h.1 e.symm),yH x h.2]
theorem zl:∀l:ip fL,l≠[]->(∀x∈l,(47:UInt8)∉x)->hC (jm l)=l
 |[],h,_=>absurd rfl h
 |[x],_,h=>yH x (h x iB)
 |x::y::r,_,h=>by
  rw[jm,A1 x _ (h x iB),zl (y::r) iB fM]
def jU (s:fL):Bool:=decide (1<=s.length)&&decide (s.length<=20)&&decide (s≠[46])&&decide (s≠[46,46])&&s.all λc=>decide (c≠47)&&decide (c≠0)
def CJ {s:fL} (h:jU s=true):1<=s.length/\s.length<=20:=by
 grind [jU]
theorem yS {s:fL} (h:jU s=true):s≠[]:=λe=>by subst e;exact absurd (CJ h).1 iB
def F0 {s:fL} (h:jU s=true):(47:UInt8)∉s:=by grind [jU,List.all_eq_true]
def gX (s:fL):Bool:=decide (s=[])||((hC s).all jU&&decide (s.length<=100)&&decide ((hC s).length<=8))
theorem sJ {s:fL} (h:gX s=true) (h0:s≠[]):(∀x∈hC s,jU x=true)/\s.length<=100/\(hC s).length<=8:=by
 grind [gX,List.all_eq_true,absurd]
def kO {s:fL} (h:gX s=true):s.length<=100:=by
 grind [sJ]
def fX (s:fL):ip fL:=if s=[]then[]else if gX s then hC s else[]
theorem kM:fX []=[]:=rfl
theorem iy {s:fL} (h:gX s=true) (h0:s≠[]):fX s=hC s:=by grind [fX]
theorem n9 {s:fL} (h:gX s=false):fX s=[]:=by
 grind [fX]
theorem kI {s:fL} (h:gX s=true):jm (fX s)=s:=by
 by_cases h0:s=[]
 .subst h0;rfl
 grind [iy,yZ]
theorem Cc {a b:fL} (d:gX a=true) (f:gX b=true) (h:fX a=fX b):a=b:=by grind [kI]
theorem oc {s x:fL} (h:x∈fX s):jU x=true:=by
 unfold fX at h;split at h
 .simp at h
 .rename_i h0;split at h
  .rename_i hm;exact(sJ hm h0).1 x h
  .simp at h
def sF (s:fL):(fX s).length<=8:=by
 unfold fX;split
 .simp
 .rename_i h0;split<;>simp_all [sJ]
theorem qB {s:fL}:fX s=[]↔s=[]\/gX s=false:=by
 constructor
 .grind [gX,iy,absurd,kU]
 .rintro(h|h)
  .rw[h];rfl
  grind [n9]
def mK (s:fL):fL:=(fX s).getLastD []
def n8 (s:fL):fL:=jm ((fX s).dropLast)
def iI (s:fL):Option fL:=if fX s=[]then none else some (n8 s)
theorem p6:∀(l:ip fL) (x:fL),l≠[]->jm (l++[x])=jm l++47::x
 |[],x,h=>absurd rfl h
 |[y],x,_=>rfl
 |y::z::r,x,_=>by
  rw[rf,rf,jm,<-rf,p6 (z::r) x iB,jm];simp
theorem FQ {s:fL} (h:fX s≠[]):n8 s=s.take (s.length-(mK s).length-1):=by
 have hm:gX s=true:=by
  cases hm:gX s with
  |true=>rfl
  |false=>grind [absurd,n9]
 have d:=kI hm;obtain⟨l,x,f⟩:∃l x,fX s=l++[x]:=⟨_,_,(MH h).symm⟩;unfold n8 mK;rw[f]at d|-;rw[Dv];have g:(l++[x]).getLastD []=x:=by simp
 rw[g]
 by_cases h0:l=[]
 .simp_all [jm]
 grind [p6,jm,List.length,List.take_left]
def oq (s top:fL):Bool:=gX s&&gX top&&(decide (top=[])||decide (s=top)||(top++[47]).isPrefixOf s)
def jc:ip fL->ip fL->Bool
 |[],[]=>false
 |[],_::_=>true
 |_::_,[]=>false
 |x::a,y::b=>if x=y then jc a b else Op.bytesLess x y
def ix (a b:fL):Bool:=jc (fX a) (fX b)
theorem si:∀a:fL,Op.bytesLess a a=false
 |[]=>rfl
 |x::r=>by simp[Op.bytesLess,si r]
theorem ux:∀a b:fL,a≠b->Op.bytesLess a b=true\/Op.bytesLess b a=true
 |[],[],h=>absurd rfl h
 |[],_::_,_=> .inl rfl
 |_::_,[],_=> .inr rfl
 | x::a,y::b,h=>by
  simp only[Op.bytesLess,uf,iU,decide_eq_true_eq,beq_iff_eq]
  by_cases e:x=y
  .subst e;have:=ux a b fM
   grind
  grind
theorem oG:∀a b c:fL,Op.bytesLess a b=true->Op.bytesLess b c=true->Op.bytesLess a c=true
 |[],[],_,h,_=>by cases h
 |[],_::_,[],_,h=>by cases h
 |[],_::_,_::_,_,_=>rfl
 |_::_,[],_,h,_=>by cases h
 |_::_,_::_,[],_,h=>by cases h
 | x::a,y::b,z::c,h,d=>by
  simp only[Op.bytesLess,uf,iU,decide_eq_true_eq,beq_iff_eq]at*;rcases h with h|⟨rfl,h⟩
  .grind
  .rcases d with d|⟨rfl,d⟩
   .exact .inl d
   .exact .inr ⟨rfl,oG a b c h d⟩
theorem sK:∀a,jc a a=false
 |[]=>rfl
 |x::a=>by rw[jc,if_pos rfl,sK a]
theorem wE:∀a b,a≠b->jc a b=true\/jc b a=true
 |[],[],h=>absurd rfl h
 |[],_::_,_=> .inl rfl
 |_::_,[],_=> .inr rfl
 |x::a,y::b,h=>by
  by_cases e:x=y
  .subst e;rw[jc,if_pos rfl,jc,if_pos rfl];exact wE a b λe=>h (by rw[e])
  grind [jc,ux]
def MC {a b:fL} (h:Op.bytesLess a b=true):Op.bytesLess b a=false:=by
 grind [Op.bytesLess,oG,si]
theorem lS:∀a b c,jc a b=true->jc b c=true->jc a c=true
 |[],[],_,h,_=>by cases h
 |[],_::_,[],_,h=>by cases h
 |[],_::_,_::_,_,_=>rfl
 |_::_,[],_,h,_=>by cases h
 |_::_,_::_,[],_,h=>by cases h
 | x::a,y::b,z::c,h,d=>by
  rw[jc]at h d|-
  by_cases e:x=y
  .subst e;rw[if_pos rfl]at h
   by_cases e':x=z
   .subst e';rw[if_pos rfl]at d|-;exact lS a b c h d
   grind
  grind [oG,si]
theorem tX {a b:ip fL} (h:jc a b=true):jc b a=false:=by
 grind [jc,lS,sK]
structure xB where
 name:fL
 value:fL
deriving DecidableEq,Inhabited
structure Ac where
 kind:Int
 id:Int
 perm:Int
deriving DecidableEq,Inhabited
structure hT where
 pos:Int
 data:fL
deriving DecidableEq,Inhabited
structure Nd where
 kind:Int
 mode:Int
 uid:Int
 gid:Int
 time:Int
 attrs:List xB
 acl:List Ac
 size:Int
 data:List hT
 target:fL
 major:Int
 minor:Int
deriving DecidableEq,Inhabited
structure En where
 path:fL
 node:Int
deriving DecidableEq,Inhabited
structure fZ where
 es:List En
 ns:List Nd
deriving DecidableEq,Inhabited
def kX {α:Type} (lt:α->α->Bool):Option α->ip α->Bool
 |_,[]=>true
 |none,x::r=>kX lt (some x) r
 |some p,x::r=>lt p x&&kX lt (some x) r
def lz (a:Ac):Bool:=decide (1<=a.kind)&&decide (a.kind<=3)&&decide (0<=a.perm)&&decide (a.perm<=7)&&decide (0<=a.id)&&decide (a.id<=2147483647)&&(decide (a.kind≠3)||decide (a.id=0))
def acLt (a b:Ac):Bool:=decide (a.kind<b.kind)||(decide (a.kind=b.kind)&&decide (a.id<b.id))
def om (l:ip Ac):Bool:=decide (l.length<=16)&&l.all lz&&kX acLt none l&&(decide (l=[])||l.any λa=>decide (a.kind=3))
def j4 (a:xB):Bool:=decide (1<=a.name.length)&&decide (a.name.length<=20)&&decide (a.value.length<=200)
def ki (a b:xB):Bool:=Op.bytesLess a.name b.name
def v8 (n:Int):Bool:=decide (0<=n)&&decide (n<=2147483647)
def hd (n:Nd):Bool:=decide (0<=n.mode)&&decide (n.mode<=4095)&&v8 n.uid&&v8 n.gid&&decide (0<=n.time)&&decide (n.attrs.length<=8)&&n.attrs.all j4&&kX ki none n.attrs&&om n.acl
def fF:ip hT->Nat
 |[]=>0
 |p::r=>p.data.length+fF r
def j3 (p:hT):Bool:=decide (p.data≠[])&&decide (0<=p.pos)&&decide (p.pos<=1099511627776)
def xY (size:Int):Int->ip hT->Bool
 |last,[]=>decide (last<=size)
 |last,p::r=>decide (last<p.pos)&&xY size (p.pos+p.data.length) r
def jV (n:Nd):Bool:=decide (0<=n.size)&&decide (n.size<=1099511627776)&&decide (n.data.length<=16)&&n.data.all j3&&decide (fF n.data<=4000)&&xY n.size (-1) n.data
def iv (n:Nd):Bool:=decide (n.size=0)&&decide (n.data=[])
def jz (n:Nd):Bool:=decide (n.target=[])
def jL (n:Nd):Bool:=decide (n.major=0)&&decide (n.minor=0)
def fG (n:Nd):Bool:=hd n&&
 (if n.kind=1\/n.kind=6 then iv n&&jz n&&jL n
  else if n.kind=2 then jV n&&jz n&&jL n
  else if n.kind=3 then iv n&&jL n&&decide (1<=n.target.length)&&decide (n.target.length<=200)&&n.target.all λc=>decide (c≠0)
  else if n.kind=4\/n.kind=5 then iv n&&jz n&&decide (0<=n.major)&&decide (n.major<=65535)&&decide (0<=n.minor)&&decide (n.minor<=65535)
  else false)
def fK:ip En->fL->Option Int
 |[],_=>none
 |e::r,p=>if e.path=p then some e.node else fK r p
def fV (ns:ip Nd) (k:Int):Int:=(ns.getD k.toNat default).kind
def uO (ns:ip Nd):Option fL->Nat->ip En->Bool
 |_,used,[]=>decide (used=ns.length)
 | prev,used,e::r=>gX e.path&&(match prev with|none=>decide (e.path=[])|some p=>ix p e.path)&&decide (0<=e.node)&&decide (e.node<=used)&&decide (e.node<ns.length)&&
   (if e.node<used then decide (fV ns e.node≠1)&&uO ns (some e.path) used r
    else fG (ns.getD used default)&&uO ns (some e.path) (used+1) r)
def qH (t:fZ) (e:En):Bool:=match fK t.es (n8 e.path)with
 |some k=>decide (fV t.ns k=1)
 |none=>false
def gM (t:fZ):Bool:=decide (1<=t.es.length)&&decide (t.es.length<=100)&&uO t.ns none 0 t.es&&decide (fV t.ns ((t.es.headD default).node)=1)&&(t.es.drop 1).all (qH t)
def iA:Option fL->ip En->Bool
 |_,[]=>true
 |prev,e::r=>gX e.path&&(match prev with|none=>decide (e.path=[])|some p=>ix p e.path)&&iA (some e.path) r
def jD (n:Nat):Nat->ip En->Bool
 |_,[]=>true
 |used,e::r=>decide (0<=e.node)&&decide (e.node<=used)&&decide (e.node<n)&&jD n (if e.node<used then used else used+1) r
def kE:Nat->ip En->Nat
 |used,[]=>used
 |used,e::r=>kE (if e.node<used then used else used+1) r
def ka (i:Nat) (l:ip En):Nat:=l.countP λe=>decide (e.node=(i:Int))
theorem Fw:∀(l:ip En) (u:Nat),u<=kE u l
 |[],_=>gJ _
 |e::r,u=>by
  rw[kE];split
  .exact Fw r u
  .exact ly (K9 u) (Fw r (u+1))
theorem Ee {n:Nat}:∀(l:ip En) (u:Nat),u<=n->jD n u l=true->kE u l<=n
 |[],_,h,_=>h
 |e::r,u,h,d=>by
  simp only[jD,iU,decide_eq_true_eq]at d;rw[kE];obtain⟨⟨⟨h0,h1⟩,f⟩,h3⟩:=d;split
  .rename_i fY;rw[if_pos fY]at h3;exact Ee r u h h3
  .rename_i fY;rw[if_neg fY]at h3;exact Ee r (u+1) fy h3
theorem sN {n:Nat}:∀(l:ip En) (u i:Nat),jD n u l=true->u<=i->(0<ka i l↔i<kE u l)
 |[],u,i,_,h=>by grind [ka,kE]
 | e::r,u,i,d,h=>by
  simp only[jD,iU,decide_eq_true_eq]at d;obtain⟨⟨⟨h0,h1⟩,g⟩,h3⟩:=d;unfold ka;rw[kE,Hv]
  by_cases fY:e.node<u
  .rw[if_pos fY]at h3|-;have f:¬e.node=(i:Int):=fy;have:=sN r u i h3 h
   grind [ka,decide_false,Bool.false_eq_true]
  .rw[if_neg fY]at h3|-;have he:e.node=(u:Int):=fy;have m:=Fw r (u+1)
   by_cases hi:i=u
   .grind
   .have f:¬e.node=(i:Int):=fy;have:=sN r (u+1) i h3 fy
    grind [ka,decide_false,Bool.false_eq_true]
theorem jo (ns:ip Nd):∀(l:ip En) (prev:Option fL) (u:Nat),u<=ns.length->(uO ns prev u l=true↔
  iA prev l=true/\jD ns.length u l=true/\kE u l=ns.length/\(∀i,u<=i->i<ns.length->fG (ns.getD i default)=true)/\
  (∀i:Nat,i<ns.length->fV ns i=1->(i<u->ka i l=0)/\(u<=i->ka i l=1)))
 |[],prev,u,hu=>by
  grind [uO,iA,jD,kE,ka]
 | e ::r,prev,u,hu=>by
  simp only[uO,iA,jD,kE,iU,decide_eq_true_eq];have hc:∀i:Nat,ka i (e::r)=ka i r+if e.node=(i:Int)then 1 else 0:=by grind [ka]
  by_cases fY:e.node<u
  .simp only[if_pos fY,iU,decide_eq_true_eq];have g:=jo ns r (some e.path) u hu;rw[g];constructor
   .rintro⟨⟨⟨⟨⟨h1,d⟩,h3⟩,n⟩,t⟩,v,f,y,w,m,x⟩;refine⟨⟨⟨h1,d⟩,f⟩,fM,w,m,λi hi hk=>?_⟩;rw[hc];have B:¬e.node=(i:Int):=fM
    grind
   .rintro⟨⟨⟨h1,d⟩,f⟩,⟨⟨⟨h3,n⟩,t⟩,y⟩,w,m,x⟩
    have v:fV ns e.node≠1:=λhk=>by
     have:=(x e.node.toNat fy (by rw[show((e.node.toNat:Nat):Int)=e.node from by omega];exact hk)).1 fy;rw[hc,if_pos fy]at this;omega
    refine⟨fM,v,f,y,w,m,λi hi hk=>?_⟩;have B:¬e.node=(i:Int):=fM
    grind
  .simp only[if_neg fY,iU];constructor
   .rintro⟨⟨⟨⟨⟨h1,d⟩,h3⟩,n⟩,t⟩,v,f⟩;have g:=jo ns r (some e.path) (u+1) fy;obtain⟨g1,g2,g3,g4,g5⟩:=g.1 f;refine⟨⟨⟨h1,d⟩,g1⟩,fM,g3,λi hi C=>?_,λi hi hk=>?_⟩
    .grind
    .rw[hc];have:=g5 i hi hk;constructor
     .grind
     .intro D
      by_cases e':i=u
      .grind
      .rw[if_neg fy];omega
   .rintro⟨⟨⟨h1,d⟩,g1⟩,⟨⟨⟨h3,n⟩,t⟩,g2⟩,g3,g4,g5⟩;have g:=jo ns r (some e.path) (u+1) fy;refine⟨fM,fM,g.2 ⟨g1,g2,g3,fM,λi hi hk=>?_⟩⟩;have:=g5 i hi hk;rw[hc]at this;constructor
    .grind
    grind
theorem gT:∀{l:ip En} {p:fL} {k:Int},fK l p=some k->∃e∈l,e.path=p/\e.node=k
 |[],_,_,h=>by cases h
 |e::r,p,k,h=>by
  rw[fK]at h;split at h
  .grind
  .obtain⟨e',h1,d⟩:=gT h;grind
theorem mU:∀{l:ip En} {p:fL},fK l p=none->∀e∈l,e.path≠p
 |[],_,_,e,he=>by simp at he
 | e0::r,p,h,e,he=>by
  rw[fK]at h;split at h
  .cases h
  .rename_i d;rcases iu.1 he with rfl|he
   .exact d
   .exact mU h e he
theorem qc {n:Nat}:∀{l:ip En} {u:Nat},jD n u l=true->∀e∈l,0<=e.node/\e.node<n
 |[],_,_,e,he=>by simp at he
 |e0::r,u,h,e,he=>by
  simp only[jD,iU,decide_eq_true_eq]at h;rcases iu.1 he with rfl|he
  .omega
  .exact qc h.2 e he
theorem IM (a:fL):ix a []=false:=by
 unfold ix;rw[kM];cases fX a<;>rfl
theorem np:∀{l:ip En} {p:Option fL},iA p l=true->∀e∈l,gX e.path=true
 |[],_,_,e,he=>by simp at he
 |e0::r,p,h,e,he=>by
  simp only[iA,iU]at h;rcases iu.1 he with rfl|he
  .exact h.1.1
  .exact np h.2 e he
theorem qs:∀{l:ip En} {p:fL},iA (some p) l=true->∀e∈l,e.path≠[]
 |[],_,_,e,he=>by simp at he
 |e0::r,p,h,e,he=>by
  simp only[iA,iU]at h;rcases iu.1 he with rfl|he
  .grind [IM,absurd]
  .exact qs h.2 e he
def x9 (t:fZ) (e:En):Bool:=match iI e.path with
 |none=>true
 |some up=>match fK t.es up with
  |some k=>decide (0<=k)&&decide (k<t.ns.length)&&decide (fV t.ns k=1)
  |none=>false
def tn (t:fZ):Option fL->Nat->ip En->Bool
 |_,_,[]=>true
 |prev,used,e::r=>gX e.path&&(match prev with|none=>true|some p=>ix p e.path)&&decide (0<=e.node)&&decide (e.node<=used)&&decide (e.node<t.ns.length)&&x9 t e&&tn t (some e.path) (if e.node<used then used else used+1) r
def rC (t:fZ) (i:Nat):Bool:=fG (t.ns.getD i default)&&decide (ka i t.es≠0)&&(decide (fV t.ns i≠1)||decide (ka i t.es=1))
def MO (t:fZ):Bool:=decide (1<=t.es.length)&&decide (t.es.length<=100)&&decide ((t.es.headD default).path=[])&&tn t none 0 t.es&&(List.range t.ns.length).all (rC t)&&decide (fV t.ns ((t.es.headD default).node)=1)
theorem Bi (t:fZ):∀(l:ip En) (p:fL) (u:Nat),tn t (some p) u l=true↔iA (some p) l=true/\jD t.ns.length u l=true/\l.all (x9 t)=true
 |[],_,_=>by simp[tn,iA,jD]
 |e::r,p,u=>by
  simp only[tn,iA,jD,iU,decide_eq_true_eq,ra];rw[Bi t r e.path]
  grind
def Mh {t:fZ} (d:∀e∈t.es,0<=e.node/\e.node<t.ns.length) {e:En} (hm:gX e.path=true) (h0:e.path≠[]):x9 t e=qH t e:=by
 grind [x9,qH,iI,iy,kU,fK,n8,gT]
def RL (t:fZ):MO t=gM t:=by
 obtain⟨es,ns⟩:=t;cases es with
 |nil=>rfl
 | cons e r=>
  rw[xJ];unfold MO gM;simp only[iU,decide_eq_true_eq,List.headD_cons,RC,wK];rw[jo ns (e::r) none 0 (iF _)];constructor
  .rintro⟨⟨⟨⟨⟨h1,w⟩,h3⟩,n⟩,I⟩,u⟩;simp only[tn,iU,decide_eq_true_eq]at n;rw[Bi]at n;obtain⟨⟨⟨⟨⟨⟨E,_⟩,a3⟩,a4⟩,a5⟩,G⟩,m,H,a9⟩:=n;have h3:e.path=[]:=of_decide_eq_true h3;have v:iA none (e::r)=true:=by simp only[iA,E,m,decide_eq_true h3,Mv]
   have f:jD ns.length 0 (e::r)=true:=by simp only[jD,iU,decide_eq_true_eq];exact fM
   have D:∀i,i<ns.length->rC ⟨e::r,ns⟩ i=true:=fM
   have B:kE 0 (e::r)=ns.length:=by
    have hle:=Ee (e::r) 0 (iF _) f;rcases p9 (kE 0 (e::r)) ns.length with fY|K
    .grind [rC,sN,kE]
    .omega
   refine⟨⟨⟨⟨h1,w⟩,v,f,B,λi _ hi=>?_,λi hi hk=>⟨λh=>fy,λ_=>?_⟩⟩,u⟩,?_⟩
   .grind [rC]
   .grind [rC,absurd]
   .rw[ld]at a9|-;intro x d;have F:=qs m x d;rw[<-Mh (t:=⟨e::r,ns⟩) (qc f) (np m x d) F];exact a9 x d
  .rintro⟨⟨⟨⟨h1,w⟩,v,f,B,D,J⟩,u⟩,y⟩;have g:=v;simp only[iA,iU,decide_eq_true_eq]at g;have C:=f;simp only[jD,iU,decide_eq_true_eq]at C;refine⟨⟨⟨fM,?_⟩,?_⟩,u⟩
   .simp only[tn,iU,decide_eq_true_eq];rw[Bi];refine⟨⟨fM,?_⟩,g.2,C.2,?_⟩
    .unfold x9 iI;rw[g.1.2];rfl
    .rw[ld]at y|-;intro x d;rw[Mh (t:=⟨e::r,ns⟩) (qc f) (np g.2 x d) (qs g.2 x d)];exact y x d
   .rw[ld];intro i hi;have hi:=x2.1 hi;simp only[rC,iU,uf,decide_eq_true_eq];refine⟨⟨D i (iF _) hi,?_⟩,?_⟩<;>grind [sN,fV]
theorem DS (a b c:ip fL) (h:jc a c=true):jc a b=true\/jc b c=true:=by
 grind [wE,lS]
def yD (x y:En):Prop:=ix y.path x.path=false
def BP (x y:En):Prop:=ix x.path y.path=true
theorem Oj {x y z:En} (h:yD x y) (d:yD y z):yD x z:=by
 grind [yD,ix,jc,fX,DS]
def Yf {x y:En} (h:BP x y):yD x y:=tX h
theorem sq:∀(l l':ip En),l.Pairwise BP->l'.Pairwise yD->l'.Perm l->l'=l
 |[],l',_,_,d=>d.eq_nil
 |x::l,[],_,_,d=>by simp_all
 | x::l,y::l',h,f,d=>by
  rw[jA]at h f
  have g:y=x:=by
   rcases iu.1 (d.mem_iff.1 (j0))with e|m
   .exact e
   .grind [List.mem_cons_self,BP,yD]
  subst g;rw[sq l l' h.2 f.2 lX]
def qY (e:En) (l:ip En):Nat->Nat
 |0=>0
 |k+1=>if ix e.path (l.getD k default).path then qY e l k else k+1
def yl (e:En) (l:ip En):ip En:=l.take (qY e l l.length)++e::l.drop (qY e l l.length)
def jM (l:ip En):ip En:=l.foldl (λa e=>yl e a) []
theorem Fa (e:En) (l:ip En):∀k,qY e l k<=k
 |0=>gJ _
 |k+1=>by
  rw[qY];split
  .exact Nat.le_succ_of_le (Fa e l k)
  omega
theorem xy (e:En) (l:ip En):∀k j,qY e l k<=j->j<k->ix e.path (l.getD j default).path=true
 |0,j,_,h=>fy
 | k+1,j,h1,f=>by
  rw[qY]at h1;split at h1
  .rename_i d
   by_cases e':j=k
   .subst e';exact d
   .exact xy e l k j h1 fy
  .omega
theorem AU (e:En) (l:ip En):∀k,0<qY e l k->ix e.path (l.getD (qY e l k-1) default).path=false
 |0,h=>by simp[qY]at h
 |k+1,h=>by
  rw[qY]at h|-;split at h
  .rename_i d;rw[if_pos d];exact AU e l k h
  grind
theorem NT (e:En) (l:ip En):(yl e l).Perm (e::l):=by
 grind [yl,List.perm_middle,qY,List.length,List.take_append_drop]
def HN {e:En} {l:ip En} (h:l.Pairwise yD):(yl e l).Pairwise yD:=by
 unfold yl;have hk:=Fa e l l.length;have m:=xy e l l.length;have g:=AU e l l.length;obtain⟨k,n⟩:∃k,k=qY e l l.length:=⟨_,rfl⟩;rw[<-n]at hk m g|-;rw[ke,jA];have hs:=h;rw[<-mJ k l,ke]at hs
 have h1:∀x∈l.take k,yD x e:=by
  intro x f;obtain⟨j,d,rfl⟩:=BV f;rw[kv]at d;have hle:yD (l.getD (k-1) default) e:=g fy;rw[List.getElem_take]
  by_cases e':j=k-1
  .grind
  .grind [Oj,List.getElem?_eq_getElem,List.pairwise_iff_getElem]
 have t:∀x∈l.drop k,yD e x:=by
  intro x f;obtain⟨j,d,rfl⟩:=BV f;rw[lY]at d;have:=m (k+j) fy fy;rw[kW,j9 fy]at this;rw[List.getElem_drop];exact Yf this
 grind
theorem uQ:∀(l a:ip En),a.Pairwise yD->(l.foldl (λa e=>yl e a) a).Pairwise yD/\(l.foldl (λa e=>yl e a) a).Perm (l++a)
 |[],a,h=>⟨h,.refl _⟩
 |e::l,a,h=>by
  rw[wa];obtain⟨h1,d⟩:=uQ l (yl e a) (HN h)
  grind [NT,List.perm_middle]
theorem l8 (l:ip En):(jM l).Pairwise yD:=(uQ l [] List.Pairwise.nil).1
theorem jk (l:ip En):(jM l).Perm l:=by have:=(uQ l [] List.Pairwise.nil).2;rwa[mR]at this
def iJ:ip Int->ip En->ip En×ip Int
 |seen,[]=>([],seen)
 |seen,e::r=>if e.node∈seen then(⟨e.path,(seen.idxOf e.node:Int)⟩::(iJ seen r).1,(iJ seen r).2)
  else(⟨e.path,(seen.length:Int)⟩::(iJ (seen++[e.node]) r).1,(iJ (seen++[e.node]) r).2)
def jy (ns:ip Nd) (l:ip En):fZ:=⟨(iJ [] l).1,(iJ [] l).2.map λk=>ns.getD k.toNat default⟩
def yj (n:Nat) (e:En):Bool:=decide (0<=e.node)&&decide (e.node<n)
def hQ (t:fZ):Option fZ:=if t.es.all (yj t.ns.length)&&gM (jy t.ns (jM t.es))then some (jy t.ns (jM t.es))else none
theorem lN:∀(l:ip En) (s:ip Int),(iJ s l).1.map (·.path)=l.map (·.path)
 |[],_=>rfl
 |e::r,s=>by
  rw[iJ];split
  .simp[lN r s]
  .simp[lN r (s++[e.node])]
def Qm (l:ip En) (s:ip Int):(iJ s l).1.length=l.length:=by
 have:=congrArg List.length (lN l s);simpa using this
theorem xz:∀(l:ip En) (p:fL),iA (some p) l=true->(∀e∈l,ix p e.path=true)/\l.Pairwise BP
 |[],_,_=>lX
 |e::r,p,h=>by
  simp only[iA,iU]at h;obtain⟨h1,f⟩:=xz r e.path h.2;refine⟨λx d=>?_,jA.2 ⟨h1,f⟩⟩;rcases iu.1 d with rfl|d
  .exact h.1.2
  .exact lS _ _ _ h.1.2 (h1 x d)
theorem p4 {t:fZ} (h:gM t=true):t.es.Pairwise BP:=by
 obtain⟨es,ns⟩:=t;cases es with
 |nil=>simp_all
 |cons e r=>
  unfold gM at h;simp only[iU,decide_eq_true_eq]at h;have:=((jo ns (e::r) none 0 (iF _)).1 h.1.1.2).1;simp only[iA,iU]at this;have:=xz r e.path this.2;exact jA.2 ⟨this.1,this.2⟩
theorem wU {t:fZ} (h:gM t=true):∀e∈t.es,gX e.path=true:=by
 grind [gM,np,jo]
def uY {l l':ip En} (h:l.map (·.path)=l'.map (·.path)) (d:l.Pairwise BP):l'.Pairwise BP:=by
 have h1:(l.map (·.path)).Pairwise (λa b=>ix a b=true):=zH.2 d;rw[h]at h1;exact(zH (f:=λx:En=>x.path)).1 h1
def Qn {t:fZ} {s:ip En} (g:s.Perm t.es) (hs:s.Pairwise yD):(if s.all (yj t.ns.length)&&gM (jy t.ns s)then some (jy t.ns s)else none)=hQ t:=by
 have f:s.all (yj t.ns.length)=t.es.all (yj t.ns.length):=by
  rw[xJ,ld,ld];exact fM
 unfold hQ;rw[f]
 by_cases h1:gM (jy t.ns s)=true
 .have:=uY (lN s []) (p4 h1)
  grind [sq,jM,l8,jk,List.Perm.symm]
 .by_cases d:gM (jy t.ns (jM t.es))=true
  .have:=uY (lN (jM t.es) []) (p4 d)
   grind [sq,jM,jk]
  .simp[h1,d]
def GX {t:fZ} (h:100<t.es.length):hQ t=none:=by
 unfold hQ
 have:gM (jy t.ns (jM t.es))=false:=by
  unfold gM jy;simp only[Qm,(jk t.es).length_eq,show ¬t.es.length<=100 by omega,decide_false,tl,hW]
 rw[this];simp
def N1 {t:fZ} {e:En} (he:e∈t.es) (h:gX e.path=false):hQ t=none:=by
 unfold hQ;cases hm:gM (jy t.ns (jM t.es))with
 |false=>simp
 | true=>
  have d:e.path∈(jy t.ns (jM t.es)).es.map (·.path):=by
   show e.path∈(iJ [] (jM t.es)).1.map (·.path)
   rw[lN];exact(by grind [jk])
  grind [wU]
def Mt {t:fZ} {e:En} (he:e∈t.es) (h:yj t.ns.length e=false):hQ t=none:=by
 grind [hQ,yj,List.length,List.all_eq_false]
theorem Ay {t u:fZ} (h:hQ t=some u):gM u=true:=by
 grind [hQ]
def jK (ic:ip fL) (p:fL):Bool:=decide (p=[])||ic.any λq=>oq p q||oq q p
def tL (t:fZ) (ic:ip fL):Option fZ×Int:=
 if gM t then
  if ic.all λq=>(fK t.es q).isSome then
   match hQ ⟨t.es.filter (λe=>jK ic e.path),t.ns⟩with
   |some u=>(some u,0)
   |none=>(none,1)
  else(none,7)
 else(none,1)
def lV (t:fZ) (p:fL):ip fL:=(t.es.filter λe=>decide (iI e.path=some p)).map λe=>mK e.path
def qo (t:fZ) (p:fL):ip fL:=match fK t.es p with
 |some k=>(t.es.filter λe=>decide (e.node=k)).map (·.path)
 |none=>[]
def gf:ip Nd->Nat
 |[]=>0
 |n::r=>fF n.data+gf r
def Rw {α:Type} (d:α->ip i6) (w:i5) (v:i6) (l:ip α):Prop:=Row w v l.length (l.flatMap d)
def RwC {α:Type} (d:α->ip i6) (z:Nat) (w:i5) (A:Option Addr) (l:ip α):Prop:=
 0<l.length->∃b o,A=some ⟨b,o,none⟩/\b<w.heap.size/\∀i x,l[i]? =some x->∀j u,(d x)[j]? =some u->w.cell? ⟨b,o+i*z+j,none⟩=some u
theorem flat_get {α:Type} {d:α->ip i6} {z:Nat} (f:∀x,(d x).length=z):∀{l:ip α} {i:Nat} {x:α},l[i]? =some x->∀{j:Nat} {u:i6},(d x)[j]? =some u->(l.flatMap d)[i*z+j]? =some u
 |[],i,x,h,_,_,_=>by simp at h
 |y::l,0,x,h,j,u,hu=>by
  simp only[My]at h;injection h with h
  subst h;rw[tN,iM,tu,rk (jR.1 hu).1];exact hu
 |y::l,i+1,x,h,j,u,hu=>by
  rw[Dr]at h;have:=flat_get f h hu;rw[tu,tk (by rw[f,sc];omega),f,sc,show i*z+z+j-z=i*z+j from by omega];exact this
theorem gn {α:Type} {d:α->ip i6} {z:Nat} (f:∀x,(d x).length=z):∀l:ip α,(l.flatMap d).length=l.length*z
 |[]=>by simp
 |y::l=>by rw[tu,ib,f,gn f l,iP,sc];omega
section
variable {α:Type} {cf:α->ip i6} {w w':i5} {v:i6} {l:ip α}
def Rw.fr {S:Nat->Prop} (h:Rw cf w v l) (f:Fr S w w') (d:∀b,v.ownBlock=some b->¬S b):Rw cf w' v l:=Row.fr h f d
def Rw.ext (h:Rw cf w v l) (d:Ext w w'):Rw cf w' v l:=Row.ext h d
def Rw.op (y:∀x,(cf x).length=z) (h:Rw cf w v l):∃A c,v= .slice A l.length c/\l.length<=c/\c<=9223372036854775807/\RwC cf z w A l:=by
 obtain⟨A,c,h1,d,h3,f⟩:=h;refine⟨A,c,h1,d,h3,λh0=>?_⟩;obtain⟨b,o,g,m,n⟩:=f h0;exact⟨b,o,g,m,λi x t j u hu=>by rw[GC];exact n _ u (flat_get y t hu)⟩
def RwC.at_ (h:RwC cf z w A l) {i:Nat} (hi:i<l.length):∃b o x,A=some ⟨b,o,none⟩/\b<w.heap.size/\l[i]? =some x/\l.drop i=x::l.drop (i+1)/\∀j u,(cf x)[j]? =some u->w.cell? ⟨b,o+i*z+j,none⟩=some u:=by
 obtain⟨b,o,h1,f,h3⟩:=h fy;have d:=j9 hi;exact⟨b,o,l[i],h1,f,d,Fq hi,h3 i _ d⟩
theorem Rw.nil (w:i5) (c:Nat) (hc:c<=maxLen):Rw cf w (.slice none 0 c) ([]:ip α):=⟨none,c,rfl,iF _,hc,λh=>absurd h iB⟩
end
def Ow {α:Type} (d:α->ip i6) (z:Nat) (w:i5) (B:Nat) (e:i9) (v:i6) (l:ip α):Prop:=gK w B e z v l.length (l.flatMap d)
section
variable {α:Type} {cf:α->ip i6} {z:Nat} {w w':i5} {B:Nat} {e:i9} {v:i6} {l:ip α}
def Ow.rw (h:Ow cf z w B e v l):Rw cf w v l:=gK.row h
theorem Ow.nil (w:i5) (B:Nat) (e:i9):Ow cf z w B e (.slice none 0 0) []:=gK.nil w B e z
def Ow.fr {S:Nat->Prop} (h:Ow cf z w B e v l) (f:Fr S w w') (d:∀b,v.ownBlock=some b->¬S b):Ow cf z w' B e v l:=gK.fr h f d
def Ow.ext (h:Ow cf z w B e v l) (d:Ext w w'):Ow cf z w' B e v l:=gK.ext h d
def Ow.gO (h:Ow cf z w B e v l) {b:Nat} (d:v.ownBlock=some b):B<=b/\b<w.heap.size:=gK.gO h d
def Ow.mono {d:Nat} (h:Ow cf z w B e v l) (f:d<=B):Ow cf z w d e v l:=gK.mono h f
def Ow.form (h:Ow cf z w B e v l):∃A c,v= .slice A l.length c/\l.length<=c/\c<=9223372036854775807:=gK.form h
theorem Ow.ext1 {l':ip α} (h:gK w B e z v (l.length+l'.length) (l.flatMap cf++l'.flatMap cf)):Ow cf z w B e v (l++l'):=by
 unfold Ow;rw[ib,ue];exact h
def Ow.E7 {b n:Nat} (m:∀x,(cf x).length=z) (h:fW w b e cs) (hc:cs=(l.flatMap cf).toArray) (f:B<=b) (g:n=l.length) (hm:n<=maxLen):Ow cf z w B e (.S b 0 n n) l:=by
 subst g;subst hc;have d:=gn m l;refine⟨d,.inr ⟨b,l.length,(l.flatMap cf).toArray,rfl,f,h,gJ _,hm,?_,?_⟩⟩
 .simp only[nK];exact d
 .rw[<-d,p8 (K2 iB)]
end
def gQ {b n:Nat} {t:i9} {l:ip i6} (h:fW w b t cs) (f:n<=maxLen) (d:l=cs.toList):Row w (.S b 0 n n) n l:=
 ⟨_,_,rfl,gJ _,f,λ_=>⟨b,0,rfl,fW.lt h,λj u hu=>by rw[iM,fW.cell h];rw[d]at hu;simpa using hu⟩⟩
def km (h:a=b):some (Value.int k a)=some (Value.int k b):=by rw[h]
def qM (s:fL):ip i6:=[.U s]
def hR (e:En):ip i6:=[.U e.path,.I e.node]
def jO (a:xB):ip i6:=[.U a.name,.U a.value]
def lA (a:Ac):ip i6:=[.I a.kind,.I a.id,.I a.perm]
def kc (p:hT):ip i6:=[.I p.pos,.U p.data]
def nZ (s:fL):(qM s).length=1:=rfl
def gi (e:En):(hR e).length=2:=rfl
def jX (e:xB):(jO e).length=2:=rfl
def j7 (e:Ac):(lA e).length=3:=rfl
def hB (e:hT):(kc e).length=2:=rfl
def Mp (l:ip fL):l.flatMap qM=l.map λs=>Value.U s:=by
 induction l with
 |nil=>rfl
 |cons x l d=>rw[tu,d];rfl
structure gG where
 n:Nd
 va:Value
 vc:Value
 vd:Value
def gB (x:gG):ip i6:=[.I x.n.kind,.I x.n.mode,.I x.n.uid,.I x.n.gid,.I x.n.time,x.va,x.vc,.I x.n.size,x.vd,.U x.n.target,.I x.n.major,.I x.n.minor]
def gw (x:gG):(gB x).length=12:=rfl
structure im (w:World) (x:gG):Prop where
 a:Rw jO w x.va x.n.attrs
 c:Rw lA w x.vc x.n.acl
 d:Rw kc w x.vd x.n.data
def im.ext {w w':i5} {x:gG} (h:im w x) (f:Ext w w'):im w' x:=⟨h.a.ext f,h.c.ext f,h.d.ext f⟩
structure mE (w:World) (ve vn:Value) (fO:List gG) (t:fZ):Prop where
 e:Rw hR w ve t.es
 n:Rw gB w vn fO
 i:∀x∈fO,im w x
 m:fO.map (·.n)=t.ns
def mE.ext {w w':i5} {ve vn:i6} {fO:ip gG} {t:fZ} (h:mE w ve vn fO t) (d:Ext w w'):mE w' ve vn fO t:=⟨h.e.ext d,h.n.ext d,λx f=>(h.i x f).ext d,h.m⟩
theorem mE.len {ve vn:i6} {fO:ip gG} {t:fZ} (h:mE w ve vn fO t):fO.length=t.ns.length:=by rw[<-h.m];simp
def mE.get {ve vn:i6} {fO:ip gG} {t:fZ} (h:mE w ve vn fO t) {i:Nat} {x:gG} (d:fO[i]? =some x):t.ns[i]? =some x.n:=by rw[<-h.m];simp[d]
def mE.getD {w:i5} {ve vn:i6} {fO:ip gG} {t:fZ} (h:mE w ve vn fO t) {i:Nat} {x:gG} (d:fO[i]? =some x):t.ns.getD i default=x.n:=by
 rw[kW,h.get d];rfl
theorem fJ {l:ip i6} (h:l.all (·.oneCell')=true):(l.toArray).all (·.oneCell')=true:=by simpa using h
def uN (z:Int):Nat:=(IntKind.u64.wrap z).toNat
def Ph (z:Int):IntKind.u64.wrap z=((uN z:Nat):Int):=by
 unfold uN;have:0<=IntKind.u64.wrap z:=by simp[IntKind.wrap,IntKind.signed,IntKind.bits];omega
 omega
def RY (z:Int):uN z<=18446744073709551615:=by
 unfold uN;have:IntKind.u64.wrap z<=18446744073709551615:=by simp[IntKind.wrap,IntKind.signed,IntKind.bits];omega
 omega
