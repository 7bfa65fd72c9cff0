/- Parts of the proof. -/
import Derived.Carry
import Derived.Deep.AppendLies
import Derived.Deep.Draws
import Derived.Deep.LoopGhost
import Derived.Great.BuildSlice
import Derived.Great.FillDense
import Derived.IntWalk
import Derived.KernelRfl
import Derived.Laws.BytesArg
import Derived.Laws.Cover1
import Derived.Laws.Externs
import Derived.Laws.MakeOwn
import Derived.Laws.OwnMore
import Derived.Laws.Strings2
import Derived.Laws.Tables
import Derived.Lib.SliceRun
import Derived.MapKept
import Derived.Maps.AppendAt
import Derived.ProofKit
import Derived.Test.YtecaahegomdbbaaGreatDoorProg
import Derived.WalkKit
import Derived.WalkLawsBesides
import Derived.WalkSpells
import GoSem.Core.Float
set_option linter.all false
set_option maxRecDepth 100000
set_option maxHeartbeats 64000000
namespace Go.Proofs.YtecaahegomdbbaaGreatDoor
open Go.Proofs.Tryz
variable {p:Prop}
theorem fy (h:p:=by omega):p:=h
theorem fV (h:p:=by decide):p:=h
theorem fF (h:p:=by kernel_rfl):p:=h
theorem ir (h:p:=by simp):p:=h
theorem fS (h:p:=by grind):p:=h
theorem mu (h:p:=by simp_all):p:=h
theorem fx.{u} {α:Sort u} {a:α}:a=a:=rfl
set_option linter.defProp false
def hQ:= @List.length_append
def kp:= @List.getElem?_eq_getElem
def iO:= @Bool.and_eq_true
def jS:= @List.mem_of_getElem?
def jk:= @Option.some.inj
def kl:= @List.mem_singleton
def iU:= @Bool.true_and
def iy:= @Nat.zero_le
def kt:= @List.length_take
def lj:= @List.all_eq_true
def gJ:= @Nat.le_refl
def iY:= @Nat.le_of_ble_eq_true
def jd:= @Nat.eq_of_beq_eq_true
def hW:= @Bool.false_and
def j0:= @List.getElem?_eq_some_iff
def kv:= @List.getD_eq_getElem?_getD
def iA:= @List.length_cons
def hX:= @List.mem_cons
def jr:= @List.pairwise_cons
def jf:= @Int.toNat_natCast
def iK:= @List.mem_append
def j6:= @List.pairwise_append
def jQ:= @List.mem_cons_self
def jJ:= @List.drop_length
def lO:= @Int.eq_ofNat_of_zero_le
def iC:= @Nat.zero_add
def lv:= @List.take_append_drop
def j7:= @List.append_assoc
def jF:= @List.length_map
def jm:= @List.map_cons
def km:= @List.take_length
def kO:= @List.take_add_one
def pf:= @Array.getD_eq_getD_getElem?
def kh:= @List.length_nil
def pR:= @List.getElem?_append_left
def lH:= @List.length_drop
def qE:= @List.getElem?_append_right
def pG:= @List.take_of_length_le
def nz:= @List.size_toArray
def pB:= @List.getElem?_toArray
def mo:= @List.length_set
def qQ:= @Option.isSome_iff_exists
def pb:= @Array.length_toList
def kS:= @Nat.add_zero
def qe:= @List.mem_cons_of_mem
def qk:= @Nat.mul_le_mul_right
def nk:= @List.append_nil
def lN:= @List.mem_map
def mn:= @Nat.le_trans
def wi:= @Array.getElem?_eq_getElem
def zf:= @List.eq_nil_of_length_eq_zero
def tw:= @Array.getElem?_modify
def nf:= @Addr.add_lit
def qp:= @List.cons_append
def pE:= @List.map_append
def tB:= @List.getElem?_of_mem
def qX:= @List.getElem?_map
def tO:= @List.flatMap_append
def tE:= @List.length_pos_iff
def AB:= @List.mem_or_eq_of_mem_set
def sM:= @Result.andThen_ok
def vL:= @List.mem_append_left
def sC:= @List.not_mem_nil
def zJ:= @List.length_eq_zero_iff
def uY:= @Nat.lt_of_lt_of_le
def ph:= @Nat.mul_one
def yE:= @List.drop_eq_nil_of_le
def rJ:= @List.all_cons
def vI:= @UInt8.toNat_ofNat'
def tK:= @Bool.or_eq_true
def tH:= @Option.map_some
def EJ:= @List.drop_eq_getElem_cons
def ud:= @Nat.mod_eq_of_lt
def sO:= @Bool.and_false
def wb:= @List.flatMap_cons
def xE:= @Nat.eq_zero_or_pos
def xN:= @Option.toList_some
def Bx:= @List.length_singleton
def A6:= @List.getElem?_eq_none
def zC:= @List.map_congr_left
def G1:= @List.pairwise_iff_getElem
def Ds:= @Array.getElem?_eq_none
def MZ:= @Array.all_eq_true_iff_forall_mem
def sD:= @Sem.run_bind
def FN:= @List.getElem?_take_of_lt
def sH:= @List.map_map
def Bc:= @List.getElem_of_mem
def zd:= @List.pairwise_map
def JZ:= @Array.getElem?_eq_some_iff
def vU:= @List.drop_zero
def Bd:= @Option.isSome_some
def Jh:= @Classical.byContradiction
def Mg:= @List.take_append_of_le_length
def xK:= @List.mem_range
def FA:= @List.mem_append_right
def E0:= @Array.getElem?_toList
def zE:= @List.cons.injEq
def tG:= @Nat.add_mul
def D3:= @Option.isSome_none
def Hh:= @List.range_eq_range'
def wY:= @List.count_le_length
def tc:= @Option.getD_some
def pT:= @Nat.lt_or_ge
def rb:= @List.drop_drop
def rk:= @List.take_zero
def vm:= @List.ext_getElem?
def wT:= @List.mem_map_of_mem
def sV:= @List.range_succ
def qu:= @List.map_set
def vt:= @Option.getD_none
def AS:= @Region.noSelect_spec
def Ae:= @Nat.pow_le_pow_right
def sS:= @List.Perm.refl
def C8:= @List.getElem?_cons_succ
def vD:= @List.nil_append
def uk:= @Nat.min_eq_left
def u3:= @List.foldl_cons
def qV:= @Nat.succ_mul
def Cw:= @List.flatMap_singleton
def pP:= @Calls.mono
def Hl:= @List.setIfInBounds_toArray
def xd:= @List.getElem_mem
def wM:= @List.ext_getElem
def Ab:= @List.getElem?_drop
def vk:= @List.take_left
def zw:= @Nat.and_one_is_mod
def Cs:= @List.eq_nil_or_concat
def Da:= @List.concat_eq_append
def td:= @Nat.zero_mul
def BR:= @List.dropLast_concat
def BU:= @List.mem_of_mem_take
def zy:= @Nat.lt_trichotomy
def Az:= @Decidable.not_not
def OT:= @Array.getElem?_setIfInBounds_self_of_lt
def HY:= @Nat.add_sub_cancel_left
def Lx:= @List.dropLast_concat_getLast
def yD:= @Nat.lt_succ_self
def yu:= @List.mem_flatMap
def HR:= @List.length_eq_one_iff
def Ku:= @Nat.mul_lt_mul_of_pos_right
def Ff:= @Array.mem_of_getElem?
def zW:= @Nat.two_pow_pos
def LV:= @Array.toList_setIfInBounds
def CP:= @List.mem_range'_1
def C2:= @Option.some.injEq
def BQ:= @Nat.compare_eq_lt
def Ch:= @Nat.compare_eq_gt
def BY:= @Nat.compare_eq_eq
def LB:= @Nat.shiftRight_eq_div_pow
def HB:= @MapKept.run_checkKey
def C4:= @Option.bind_some
def BH:= @Nat.shiftLeft_eq
def Dg:= @List.perm_middle
def Q1:= @List.eraseIdx_eq_take_drop_succ
def KQ:= @List.getElem?_cons_zero
def EW:= @Bool.false_eq_true
def Co:= @Bool.eq_iff_iff
def u0:= @Nat.mod_lt
def LX:= @List.getElem?_set_self
def Rj:= @List.drop_append_of_le_length
def HP:= @List.length_range
def F4:= @Array.size_append
def Cx:= @IntWalk.i64_in
def L6:= @List.count_cons_of_ne
def KI:= @List.length_replicate
def F9:= @List.zipIdx_cons
def GJ:= @List.countP_cons
def EP:= @List.drop_append
def KD:= @List.count_singleton
def LR:= @List.length_eraseIdx
def CY:= @Bool.not_true
def CQ:= @List.map_take
def KL:= @List.Perm.length_eq
def KN:= @List.getElem?_range
def HD:= @List.mem_filter
def Gl:= @List.take_left'
def Ry:= @Array.getElem?_replicate
def Cz:= @Nat.beq_refl
def K2:= @List.map_replicate
def P4:= @List.mem_of_mem_eraseIdx
def Hm:= @List.take_take
def Pb:= @World.block_lt_of_cell?
def RF:= @Nat.le_mul_of_pos_right
def LF:= @Bool.not_eq_true'
def Lo:= @List.foldl_append
def QA:= @List.pairwise_lt_range
def Vt:= @List.set_eq_take_append_cons_drop
def Wu:= @List.findIdx?_eq_some_iff_getElem
def Hj:= @Nat.add_assoc
def Kx:= @List.range'_succ
def Ll:= @Nat.div_eq_of_lt
def KH:= @List.nodup_range
def L1:= @Int.natCast_emod
def uM:= @Ne.symm
def Q9:= @List.Perm.append_left
def Pu:= @List.set_append_right
def RT:= @List.drop_eq_nil_iff
def Fq:= @List.all_nil
def RG:= @List.drop_succ_cons
def QH:= @List.filter_sublist
def UM:= @List.countP_eq_length_filter
def LZ:= @Bool.and_assoc
def Gj:= @Nat.pow_add
def Rg:= @Array.any_eq_true'
def PO:= @List.append_of_mem
def RR:= @List.findIdx?_cons
def Ox:= @List.filter_append
def Lu:= @Bool.and_self
def Wq:= @List.isPrefixOf_iff_prefix
def KY:= @Bool.and_true
def Rq:= @List.any_eq_false
def OM:= @List.getElem?_set
def QU:= @List.idxOf_append
def Vg:= @List.rel_of_pairwise_cons
def Gh:= @Array.ext'
def Vd:= @List.findIdx?_eq_none_iff
def Lc:= @Nat.sub_zero
def Li:= @Nat.le_of_eq
def V3:= @List.idxOf_lt_length_iff
def PR:= @List.any_eq_true
def UP:= @List.length_erase_of_mem
def Q4:= @List.take_append
def La:= @Nat.pow_succ
def Vz:= @Array.size_setIfInBounds
def Vp:= @List.set_eq_of_length_le
def O9:= @List.nodup_cons
def QC:= @Nat.div_le_self
def PH:= @Option.map_none
def Vl:= @List.append_eq_nil_iff
def Wy:= @MapKept.run_getObj_map
def VA:= @MapKept.run_setObj_map
def KT:= @Nat.le_succ
def VS:= @List.length_pos_of_mem
def Lr:= @Nat.mul_pos
def Wn:= @List.Perm.append_right
def UY:= @List.mem_of_mem_erase
def Wt:= @UInt8.lt_iff_toNat_lt
def Ve:= @Nat.ble_eq_true_of_le
def Rv:= @Nat.mul_le_mul
def VF:= @List.countP_le_length
def VJ:= @List.countP_mono_left
def Vn:= @Array.getElem?_mapIdx
def VR:= @List.singleton_append
def UX:= @List.length_filter_le
def V8:= @List.range'_append_1
def UK:= @List.count_cons_self
def Wj:= @Array.getElem_toList
def U5:= @List.mem_of_mem_drop
def KV:= @Nat.not_le
def U3:= @Array.mem_toList_iff
def QK:= @Prod.mk.injEq
def OL:= @List.map_drop
def UT:= @MapKept.run_findKey
def VN:= @Function.comp_apply
def VZ:= @Int.toNat_of_nonneg
def UN:= @List.replicate_succ
def Vc:= @Array.toList_append
def Va:= @List.take_set_of_le
def VV:= @List.filter_eq_self
def VP:= @List.filterMap_cons
def Wx:= @List.countP_pos_iff
def O7:= @Nat.add_comm
def P0:= @Sem.run_pure
def VE:= @Array.ext_getElem?
def Wm:= @List.mem_filterMap
def PV:= @Nat.ne_of_lt
def UQ:= @Nat.xor_lt_two_pow
def Rx:= @Nat.le_of_lt
def VD:= @List.getElem?_take
def VG:= @List.zip_cons_cons
def Pe:= @List.map_nil
def Ru:= @Nat.mul_comm
def Ou:= @Nat.sub_self
def Wi:= @List.set_cons_zero
def VI:= @List.map_singleton
def V0:= @Nat.lt_of_le_of_lt
def Vy:= @List.getElem_range
def V4:= @Bool.true_eq_false
def U4:= @Nat.sub_add_cancel
def Wv:= @Bool.false_ne_true
def Q0:= @Int.le_refl
theorem y0 (h:p:=by(refine gM (t:=37) V fx fx ?_);(refine fA ?_);(refine hd al fx fx fF fx (fJ (l:=gz x) (lj.2 (L ap))) (λm F G=>?_));(have v:Ext w m:=W.trans G λj D e=>by have:j=C.heap.size:=e;omega);(refine fA ?_);(exact hP fx fx fx F fF ⟨x,rfl,rfl,I.ext v,(λh=>by simp at h),v⟩)):p:=h
theorem y1 (h:p:=by(obtain⟨ez,eB,aG,rfl,aE⟩:=ab);(have bI:=aE);(obtain⟨aR,c8,rfl,_,_,_⟩:=aE.e.op gj);(obtain⟨aU,d8,rfl,_,_,_⟩:=aE.n.op gI);(refine fA ?_);(refine hd (aN.ext S) fx fx fF fx (fJ (l:=[.slice aR (Oi (zs.map uN)).es.length c8,.slice aU aG.length d8]) fx) (λaI bu aC=>?_));(have bJ:=bI.VL (aN.ext S) (Lm _ _ _ _ _ _) aC);(have a3:fU aI w.heap.size 26 #[.slice none 0 0,.slice none 0 0]:=(cJ.ext S).fr aC (show ¬w.heap.size=g3 by omega));(refine fA ?_);(refine gM (t:=26) bu fx fx ?_);(refine hd a3 fx fx fF fx (fJ (l:=[.slice aR (Oi (zs.map uN)).es.length c8,.slice aU aG.length d8]) fx) (λaH br aX=>?_));(have bH:=bJ.VL a3 (Lm _ _ _ _ _ _) aX);(refine fA ?_);(exact Cn fx fx br fF ⟨_,_,aG,rfl,bH,aM (aM (cz.t S) aC fy) aX (gJ _)⟩)):p:=h
theorem y2 (h:p:=by exact fB fx fx ⟨rfl,rfl⟩):p:=h
theorem y3 (h:p:=by(refine fA ?_);(refine gM (t:=37) Z fx fx ?_);(refine fA ?_);(refine hd ai fx fx fF fx (fJ (l:=gz x) (lj.2 (V ak))) (λg M ab=>?_));(have m:Ext w g:=aa.trans ab λj N e=>by have:j=K.heap.size:=e;omega);(refine fA ?_);(exact hP fx fx fx M fF ⟨x,rfl,rfl,O.ext m,(λh=>by simp at h),m⟩)):p:=h
theorem y4 (h:p:=by(rw[←s]);(refine Ia kF fx fx fV fV (λu hu=>by rw[kl.1 hu];rfl) (λV D g T=>?_));(refine jI (news:=qK p) kF fx fV fx (gD.ext d g) fx (gS D fV fx) fx (λu hu=>by rw[kl.1 hu];rfl) (by unfold maxLen;omega) fy (by have:=f.size;have:=g.size;omega) (λa B F E U=>?_));(have G:Ow qK 1 B w.heap.size 9 a (acc++[p]):=Ow.ext1 (l':=[p]) (by simpa using F));(refine lP ?_);(exact gn ⟨(i+1,i+1,a,acc++[p]),sub ⟨rfl,rfl,rfl,rfl⟩,J a B G (Ext.te (f.t g) E λj R e=>by have:=(d.gH e).1;omega),(by show l.length+1-(i+1)<l.length+1-i;omega)⟩)):p:=h
theorem y5 (h:p:=by(refine fA ?_);(exact fB fx fx ⟨rfl,a⟩)):p:=h
theorem y6 (h:p:=by(subst e);(have a:decide (l.drop (i+1)=l'.drop (i+1))=decide (l=l'):=by rw[←a];simp);(rw[decide_eq_true rfl]);(refine fA ?_);(exact gn ⟨i+1,sub ⟨rfl,rfl,rfl⟩,⟨f.d,fy,a⟩,(by show l.length-(i+1)<l.length-i;omega)⟩)):p:=h
theorem y7 (h:p:=by(have ai:hN t=none:=by have:=aC false S R aa (by rw[←ag,aD,rJ,aS];rfl);simpa using this);(refine Nf ?_);(refine qv (parts:=[]) (cells:= #[.slice none 0 0,.slice none 0 0]) fx fF ?_);(refine fA ?_);(refine hd K fx fx fF fx (fJ (l:=[.slice none 0 0,.slice none 0 0]) fx) (λG Y s=>?_));(refine fA ?_);(exact hP fx fx fx Y fF ⟨N F s fy,by first|(rw[ai];done)|(rw[ai];exact fx)⟩)):p:=h
theorem y8 (h:p:=by(rintro r K ⟨rfl,J,v⟩);(refine fA ?_);(exact fB fx fx (Ls.of ⟨rfl,_,_,_,v⟩ h C))):p:=h
theorem y9 (h:p:=by(obtain⟨rfl,rfl⟩:=h1);(refine fA ?_);(exact y2)):p:=h
theorem y10 (h:p:=by(obtain⟨t,f⟩:=iv hr h1);(rw[qR,xa]at f);(subst t;subst d);(exact .inl ⟨k,_,_,rfl,g.1,f⟩)):p:=h
theorem y11 (h:p:=by(refine fA ?_);(refine gM (t:=37) aw fx fx ?_);(refine fA ?_);(refine hd bX fx fx fF fx (fJ (l:=gz x) (lj.2 (L b9))) (λm F G=>?_));(have v:Ext w m:=aY.trans G λj D e=>by have:j=C.heap.size:=e;omega);(refine fA ?_);(exact hP fx fx fx F fF ⟨x,rfl,rfl,I.ext v,(λh=>by simp at h),v⟩)):p:=h
theorem y12 (h:p:=by(obtain⟨v,h,B⟩:=vx (ρ:=ρ) hr h);(exact jA h1 D (eqGuard_at_int ..) (λw'=>G k _ _ w') ⟨_,σ,ρ,_,h,Up.refl ρ,B,hM,rfl⟩)):p:=h
theorem y13 (h:p:=by(refine fA ?_);(refine qv (parts:=[]) (cells:= #[.slice none 0 0,.slice none 0 0]) fx fF ?_);(refine fA ?_);(refine hd aZ fx fx fF fx (fJ (l:=[.slice none 0 0,.slice none 0 0]) fx) (λm ae az=>?_));(refine fA ?_);(exact hP fx fx fx ae fF (bad aB m az))):p:=h
theorem y14 (h:p:=by(obtain⟨a,rfl,hO,g⟩:=h1);(obtain⟨A,c,rfl,D,E⟩:=hO.form);(have fW:=f.lt);(refine fA ?_);(refine iq (f.ext g) fx fx fF fx fx (λG s m=>?_));(refine fA ?_);(exact fB fx fx ⟨_,rfl,s,hO.fr m λb' u e=>by have:=(hO.gH u).1;have:b'=b:=e;omega,g.fr.t m⟩)):p:=h
theorem Yp (h:p:=by(refine fA ?_);(exact fB fx fx ⟨by rw[←a],d.t f⟩)):p:=h
theorem y16 (h:p:=by(refine gR fx (by grind [fX,Op.operands]) ?_);(have hc:iT fD fC hs ⟨some d,Op.convert s t x,ty,pos,af,none⟩= .p:=by simp[iT,cls,fD,f,ht]);(rw[hc]);(exact⟨_,by simp_all [execOp,convert,Conv.intToInt,fM,run_underlying,iF],h⟩)):p:=h
theorem y17 (h:p:=by(refine go ?_);(exact gn (fin _ (sub ⟨rfl,Ft (by rw[t1];omega),Ft (by rw[t2];omega),Ft (by rw[t3];omega),rfl⟩)))):p:=h
theorem y18 (h:p:=by(refine fA ?_);(refine gM (t:=26) aN fx fx ?_);(refine fG fx fx (JR L _ _ nv ⟨m.es,m.ns⟩ cM cO (by dsimp only;omega) (by dsimp only;omega)) (λr aP ab=>?_));(obtain⟨S,ab⟩:=ab);(rw[bO]at ab);(dsimp only at ab);(exact y1)):p:=h
theorem y19 (h:p:=by(rw[decide_eq_false (by simp[e])]at a);(rw[decide_eq_false e]);(refine fA ?_);(exact fB fx fx ⟨by rw[←a],f.d⟩)):p:=h
theorem y20 (h:p:=by(obtain rfl:i=l.length:=fy);(rw[jJ,hlen,jJ]at a);(rw[←a]);(refine fA ?_);(exact fB fx fx ⟨rfl,f⟩)):p:=h
theorem ZF (h:p:=by(refine fA ?_);(exact gn ⟨(),sub ⟨rfl,rfl⟩,rfl⟩)):p:=h
theorem Yy (h:p:=by(refine fA ?_);(exact fB fx fx ⟨by simp,a⟩)):p:=h
theorem y23 (h:p:=by(obtain⟨r,l,vs,rfl,k1,k2,k3,k4,k5,k6,k7,k8,k9⟩:=SD hr B g q);(exact⟨s,t,x,el,id,j,l,vs,r,p,_,rfl,D,iF C,by rw[h1,hu,k2,ph],g,k3,k4,k5,k6,k7,k8,k9⟩)):p:=h
theorem y24 (h:p:=by(refine fA ?_);(refine gA (α:=Unit) (λ_=>[(2,.int .i64 0),(8,.int .i64 1)]) (λ_ w'=>w=w') (λ_=>0) () (sub ⟨rfl,rfl⟩) fx ?_);(rintro _ w' rfl);(refine fA ?_);(exact lX fx (Fr.refl _ _))):p:=h
theorem y25 (h:p:=by exact gX fx ⟨_,fS,.inl ⟨rfl,⟨i+1,v1,gm⟩,sub ⟨rfl,rfl,rfl,rfl⟩,fS,rfl⟩⟩):p:=h
theorem y26 (h:p:=by(obtain⟨e',L,a,g1,g2,g3,g4,_⟩:=I);(exact next g2 g3 g4 g1)):p:=h
theorem y27 (h:p:=by(refine fA ?_);(exact fB fx fx ⟨by rw[decide_eq_false λe=>hlen (by rw[e])],Fr.refl _ _⟩)):p:=h
theorem y28 (h:p:=by(obtain⟨rfl,rfl⟩:=h1);(rw[show min (max (l:Int) 0) 1099511627776=(l:Int)from by omega]);(repeat' (first|refine X4 l rfl rfl ?_|refine adi rfl rfl ?_|refine fT ?_|fail));(exact y2)):p:=h
theorem y29 (h:p:=by(refine fA ?_);(refine fI fx fx (tT v B g m vf _ _ fK _ p M.o) ?_);(rintro r au ⟨rfl,N,U⟩);(refine fA ?_);(refine VU ?_);(exact lX fx ⟨rfl,_,N,M.t U⟩)):p:=h
theorem y30 (h:p:=by exact gX fx ⟨_,(by show t.es.length-(i+1)<t.es.length-i;omega),rfl,(i+1,v),sub ⟨rfl,rfl,rfl,rfl⟩,⟨by dsimp only;omega,C,Fp _ _ _,n⟩,rfl⟩):p:=h
theorem y31 (h:p:=by(refine fA ?_);(exact fB fx fx (Ls.of ⟨rfl,_,_,_,iS.ext F (Fr.refl _ _)⟩ h C))):p:=h
theorem y32 (h:p:=by exact fB fx fx ⟨by rw[←a];simp only[hW],s.t M⟩):p:=h
theorem y33 (h:p:=by(obtain⟨am,k1,k2⟩:=oU hr g3);(obtain⟨y,k3,k4⟩:=mj hr k2);(exact go _ _ _ C (hM.xj id 0 p (by grind [j9]) K) k4)):p:=h
theorem y34 (h:p:=by(refine fA ?_);(exact fB fx fx ⟨by simp[jo],f⟩)):p:=h
theorem y35 (h:p:=by(refine fA ?_);(exact fB fx fx ⟨by rw[←a],rfl⟩)):p:=h
theorem y36 (h:p:=by(refine lP ?_);(exact fB fx fx ⟨by rw[←a],d⟩)):p:=h
theorem y37 (h:p:=by exact Lib.tabIs_of_head (g:=(prog.globalNamed "internal/strconv.uint64pow10").getD 0) fF fF underlying485 underlying126 fF fF x.tail.tail):p:=h
theorem y38 (h:p:=by(refine fA ?_);(exact ia fx fx fx ⟨rfl,d.t g⟩)):p:=h
theorem y39 (h:p:=by(rw[e]);(refine fA ?_);(exact gn ⟨(),sub ⟨rfl,rfl,rfl,rfl⟩,rfl⟩)):p:=h
theorem y40 (h:p:=by(refine fA ?_);(exact fB fx fx ⟨by rw[←a],f⟩)):p:=h
theorem y41 (h:p:=by(rw[qR]at g);(exact QV (r:=false) hM h1 u (by simp_all [eqGuard,qi]) fx fx (λw'=>KJ ht 9999 _ _ fx w') (by cases q<;>exact g))):p:=h
theorem y42 (h:p:=by(obtain⟨rfl,_⟩:=g);(obtain⟨y,g3,N⟩:=vx (ρ:=ρ) hr g2);(exact VT h1 F hk ⟨_,σ,ρ,_,g3,Up.refl ρ,N,hM,rfl⟩)):p:=h
theorem y43 (h:p:=by exact⟨by grind [fX,Op.operands,Ci],rfl,by simp_all [execOp,GW,eqGuard_at_pointer,fM,run_eql_pointer_nil,GA]⟩):p:=h
theorem y44 (h:p:=by exact⟨by grind [fX,Op.operands,Ci],rfl,by simp_all [execOp,GW,eqGuard_at_pointer,fM,run_neq_pointer_nil,GA]⟩):p:=h
theorem y45 (h:p:=by(refine YK ?_);(exact gn ⟨j+1,sub ⟨rfl,rfl,rfl⟩,⟨T.t F,fy,v⟩,(by show t.ns.length-(j+1)<t.ns.length-j;omega)⟩)):p:=h
theorem y46 (h:p:=by exact gn ⟨⟨i+1,m,_,vf,ve,vn,nv⟩,sub ⟨rfl,rfl,rfl,rfl,rfl,rfl⟩,cont aH aW bR,(by show 25-(i+1)<25-i;omega)⟩):p:=h
theorem y47 (h:p:=by(refine fA ?_);(exact fB fx fx ⟨rfl,a.t B⟩)):p:=h
theorem y48 (h:p:=by(rename_i va B w m hc;injection h with h;subst h);(exact⟨by grind [fX,Op.operands],rfl,by simp_all [execOp,asBool,fM]⟩)):p:=h
theorem y49 (h:p:=by(simp[execOp,fM h1,fM u,Instr.index,asIntOf,run_underlying hu,sizeOf,typeInfo,hi,F,this]);(exact λK=>absurd C fy)):p:=h
end Go.Proofs.YtecaahegomdbbaaGreatDoor
namespace Go.Proofs.YtecaahegomdbbaaGreatDoor.gp
open Go.Proofs.Tryz
open Go.RowKit
variable {listed:Array Bool} {full:Array Oper} {cs:Array Value} {want:Bool} {a b r:Int} {k:IntKind} {l:List Oper} {args:List Operand} {vs:List Value} {N bytes c g j o z:Nat} {hi i lo x y:Operand} {A:Option Addr} {p q:Prop} {u:Tmp} {e m n s:TypeId} {f v v0 v1 v2:Value} {w w':World}
section
structure Hid (q:Prop):Prop where
 out:q
theorem gk0 (k:q) (h:Hid q->p:=by intro hq;(first|refine Im rfl ?_|refine Ij rfl ?_|refine AU rfl rfl (by with_reducible assumption) ?_|refine pj rfl rfl rfl (by omega) ?_|refine Is rfl rfl rfl ?_|refine Ic rfl rfl ?_|refine lC ?_|refine H6 rfl rfl rfl rfl ?_|refine vF rfl ?_|refine vw rfl ?_|refine H8 rfl rfl ?_|refine sJ rfl ?_|refine Ja rfl ?_|refine uW rfl rfl rfl ?_|refine vh rfl rfl rfl ?_|refine u1 rfl rfl (by omega) (by omega) ?_|refine u4 rfl rfl (by omega) (by omega) ?_|refine uf rfl rfl (by omega) (by omega) ?_|refine oR rfl rfl (by omega) (by omega) ?_|refine oP rfl rfl (by omega) (by omega) ?_|refine tq rfl rfl (by omega) (by omega) (by omega) ?_|refine tF rfl rfl (by omega) (by omega) (by omega) ?_|refine mi rfl rfl (by omega) ?_|refine lZ rfl rfl (by omega) ?_|refine l5 rfl rfl (by omega) ?_|refine mh rfl rfl (by omega) ?_|refine ml rfl rfl (by omega) ?_|refine ma rfl rfl (by omega) ?_|refine lR rfl rfl (by omega) ?_|refine mf rfl rfl (by omega) ?_|refine l9 rfl rfl (by omega) ?_|refine mb rfl rfl (by omega) ?_|refine lY rfl rfl (by omega) ?_|refine mc rfl rfl (by omega) ?_|refine ng ?_|refine nD ?_|refine nA rfl ?_);exact hq.out):p:=h ⟨k⟩
theorem go1 (k:q) (h:Hid q->p:=by intro hq;(first|refine gk0 ?_|refine RH rfl ?_|refine Pw rfl ?_|refine tL (by kernel_rfl) ?_|refine ox (by kernel_rfl) (by decide+kernel) ?_|refine pa ?_|refine Bg ?_|refine AU rfl rfl (by assumption) ?_|fail);exact hq.out):p:=h ⟨k⟩
theorem go (k:q) (h:Hid q->p:=by intro hq;(repeat' (first|refine go1 ?_|fail));exact hq.out):p:=h ⟨k⟩
theorem fT (k:q) (h:Hid q->p:=by intro hq;(first|refine gk0 ?_|refine RH rfl ?_|refine Pw rfl ?_|refine tL (by kernel_rfl) ?_|refine ox (by kernel_rfl) (by decide+kernel) ?_|refine pa ?_|refine Bg ?_|fail);exact hq.out):p:=h ⟨k⟩
theorem fA (k:q) (h:Hid q->p:=by intro hq;(repeat' (first|refine fT ?_|fail));exact hq.out):p:=h ⟨k⟩
theorem rT (k:q) (h:Hid q->p:=by intro hq;(first|refine gk0 ?_|refine RH rfl ?_|refine Pw rfl ?_|refine tL (by kernel_rfl) ?_|refine ox (by kernel_rfl) (by decide+kernel) ?_|refine pa ?_|refine Bg ?_|refine Om (op:= .rem) rfl rfl rfl (by omega) (by omega) (by omega) ?_|refine Om (op:= .quo) rfl rfl rfl (by omega) (by omega) (by omega) ?_|refine Bh rfl rfl rfl (by omega) (by omega) ?_|refine xG rfl rfl rfl (by omega) (by omega) ?_|refine HF rfl rfl rfl ?_|refine Gy rfl rfl rfl ?_|fail);exact hq.out):p:=h ⟨k⟩
theorem ku (k:q) (h:Hid q->p:=by intro hq;(repeat' (first|refine rT ?_|fail));exact hq.out):p:=h ⟨k⟩
theorem FO (k:q) (h:Hid q->p:=by intro hq;(first|refine gk0 ?_|refine RH rfl ?_|refine Pw rfl ?_|refine tL (by kernel_rfl) ?_|refine ox (by kernel_rfl) (by decide+kernel) ?_|refine pa ?_|refine Bg ?_|refine Ot rfl rfl ?_|refine RS rfl rfl ?_|fail);exact hq.out):p:=h ⟨k⟩
theorem MI (k:q) (h:Hid q->p:=by intro hq;(repeat' (first|refine FO ?_|fail));exact hq.out):p:=h ⟨k⟩
theorem goX (k:q) (h:Hid q->p:=by intro hq;(repeat' (first|refine gk0 ?_|refine RH rfl ?_|refine Pw rfl ?_|refine tL (by kernel_rfl) ?_|refine ox (by kernel_rfl) (by decide+kernel) ?_|refine pa ?_|refine Bg ?_|refine AU rfl rfl (by assumption) ?_|refine Z7 rfl rfl rfl rfl (by omega) ?_));exact hq.out):p:=h ⟨k⟩
theorem IW (k:q) (h:Hid q->p:=by intro hq;(first|refine xp rfl ?_|refine lC ?_|refine YI rfl rfl rfl (by omega) (by omega) ?_|refine xdi rfl rfl rfl (by omega) (by omega) (by omega) ?_|refine Ys rfl rfl rfl (by omega) (by omega) ?_|refine R1 rfl rfl rfl (by omega) ?_|refine R5 rfl rfl rfl (by omega) ?_|refine xgy rfl ?_|refine xgn rfl ?_|refine ng ?_|refine RH rfl ?_|refine Pw rfl ?_|refine nD ?_|refine tL (by kernel_rfl) ?_|refine ox (by kernel_rfl) (by decide+kernel) ?_|refine pa ?_|refine Bg ?_|refine nA rfl ?_|refine pj rfl rfl rfl (by omega) ?_|refine AU rfl rfl (by assumption) ?_|fail);exact hq.out):p:=h ⟨k⟩
theorem wk (k:q) (h:Hid q->p:=by intro hq;(repeat' (first|refine IW ?_|fail));exact hq.out):p:=h ⟨k⟩
theorem ZW (k:q) (h:Hid q->p:=by intro hq;(first|refine xp rfl ?_|refine lC ?_|refine YI rfl rfl rfl (by omega) (by omega) ?_|refine xdi rfl rfl rfl (by omega) (by omega) (by omega) ?_|refine Ys rfl rfl rfl (by omega) (by omega) ?_|refine R1 rfl rfl rfl (by omega) ?_|refine R5 rfl rfl rfl (by omega) ?_|refine xgy rfl ?_|refine xgn rfl ?_|refine RH rfl ?_|refine Pw rfl ?_|refine nD ?_|refine tL (by kernel_rfl) ?_|refine ox (by kernel_rfl) (by decide+kernel) ?_|refine pa ?_|refine Bg ?_|refine nA rfl ?_|refine pj rfl rfl rfl (by omega) ?_|refine AU rfl rfl (by assumption) ?_|fail);exact hq.out):p:=h ⟨k⟩
theorem Yk (k:q) (h:Hid q->p:=by intro hq;(repeat' (first|refine ZW ?_|fail));exact hq.out):p:=h ⟨k⟩
end
theorem YD (k:q) (h:Hid q->p:=by intro hq;(repeat' (first|refine gk0 ?_|refine RH rfl ?_|refine Pw rfl ?_|refine pa ?_|refine Bg ?_));exact hq.out):p:=h ⟨k⟩
theorem lP (k:q) (h:Hid q->p:=by intro hq;(repeat' (first|refine iu rfl rfl ?_|refine iH rfl rfl ?_|refine fT ?_));exact hq.out):p:=h ⟨k⟩
theorem gz2 (k:q) (h:Hid q->p:=by intro hq;(repeat' (first|refine gk0 ?_|refine RH rfl ?_|refine Pw rfl ?_|refine tL (by kernel_rfl) ?_|refine ox (by kernel_rfl) (by decide+kernel) ?_));exact hq.out):p:=h ⟨k⟩
theorem gz3 (k:q) (h:Hid q->p:=by intro hq;(repeat' (first|refine gk0 ?_|refine tL (by kernel_rfl) ?_|refine ox (by kernel_rfl) (by decide+kernel) ?_));exact hq.out):p:=h ⟨k⟩
theorem zF (k:q) (h:Hid q->p:=by intro hq;(repeat' (first|refine gF i (o+i*2) rfl rfl rfl rfl rfl fW ?_|refine fT ?_));exact hq.out):p:=h ⟨k⟩
theorem SE (k:q) (h:Hid q->p:=by intro hq;(repeat' (first|refine Sn (z:=c) i rfl rfl rfl rfl hc ?_|refine iu rfl rfl ?_|refine iH rfl rfl ?_|refine fT ?_));exact hq.out):p:=h ⟨k⟩
theorem Yq (k:q) (h:Hid q->p:=by intro hq;(repeat' (first|refine gq (op:= .eql) (b:=[]) (r:=false) rfl rfl (by simp[hZ,h0]) ?_|refine iu rfl rfl ?_|refine iH rfl rfl ?_|refine fT ?_));exact hq.out):p:=h ⟨k⟩
theorem YG (k:q) (h:Hid q->p:=by intro hq;(repeat' (first|refine gF i (o+i*2) rfl rfl rfl rfl rfl fW ?_|refine iu rfl rfl ?_|refine iH rfl rfl ?_|refine fT ?_));exact hq.out):p:=h ⟨k⟩
theorem Uw (k:q) (h:Hid q->p:=by intro hq;(repeat' (first|refine gF k (o'+k*12) rfl rfl rfl rfl rfl sX ?_|refine fT ?_));exact hq.out):p:=h ⟨k⟩
theorem gz9 (k:q) (h:Hid q->p:=by intro hq;(repeat' (first|refine gq (op:= .eql) (b:=[]) (r:=true) rfl rfl rfl ?_|refine iu rfl rfl ?_|refine iH rfl rfl ?_|refine fT ?_));exact hq.out):p:=h ⟨k⟩
theorem aaw (k:q) (h:Hid q->p:=by intro hq;(repeat' (first|refine xp rfl ?_|refine lC ?_|refine gF (A.length+P.length+1) ((A.length+P.length+1)*2) rfl rfl rfl (by omega) (by omega) (by omega) ?_|refine gF (A.length+P.length) ((A.length+P.length)*2) rfl rfl rfl (by omega) (by omega) (by omega) ?_|refine Ge Ka rfl rfl (by omega) ?_|refine IW ?_));exact hq.out):p:=h ⟨k⟩
theorem E5 (k:q) (h:Hid q->p:=by intro hq;(repeat' (first|refine gF i (o+i*3) rfl rfl rfl rfl rfl fW ?_|refine fT ?_));exact hq.out):p:=h ⟨k⟩
theorem NZ (k:q) (h:Hid q->p:=by intro hq;(repeat' (first|refine gq (op:= .neq) (b:=[]) (r:=false) rfl rfl (by simp[hZ,ht]) ?_|refine fT ?_));exact hq.out):p:=h ⟨k⟩
theorem Nf (k:q) (h:Hid q->p:=by intro hq;(repeat' (first|refine gF i (i*2) rfl rfl rfl rfl (by omega) (by omega) ?_|refine fT ?_));exact hq.out):p:=h ⟨k⟩
theorem FQ (k:q) (h:Hid q->p:=by intro hq;(repeat' (first|refine rO rfl rfl (λ_ h=>h) ?_|refine fT ?_));exact hq.out):p:=h ⟨k⟩
theorem Qm (k:q) (h:Hid q->p:=by intro hq;(repeat' (first|refine kV i (o+i) rfl rfl rfl rfl rfl fW ?_|refine IV rfl k0 ?_|refine fT ?_));exact hq.out):p:=h ⟨k⟩
theorem Bi (k:q) (h:Hid q->p:=by intro hq;(repeat' (first|refine adX rfl ?_|refine fT ?_));exact hq.out):p:=h ⟨k⟩
theorem PI (k:q) (h:Hid q->p:=by intro hq;(repeat' (first|refine gF i (i*12) rfl rfl rfl rfl (by omega) (by omega) ?_|refine fT ?_));exact hq.out):p:=h ⟨k⟩
theorem Ri (k:q) (h:Hid q->p:=by intro hq;(repeat' (first|refine gF i (o+i*12) rfl rfl rfl rfl rfl (by omega) ?_|refine fT ?_));exact hq.out):p:=h ⟨k⟩
theorem YK (k:q) (h:Hid q->p:=by intro hq;(repeat' (first|refine kV j j rfl rfl rfl rfl (by omega) hlj ?_|refine gF j (o3+j*12) rfl rfl rfl rfl rfl (by omega) ?_|refine fT ?_));exact hq.out):p:=h ⟨k⟩
theorem Zd (k:q) (h:Hid q->p:=by intro hq;(repeat' (first|refine kV ((fZ l).length-1) (o+((fZ l).length-1)) rfl rfl rfl (by omega) rfl (by omega) ?_|refine iu rfl rfl ?_|refine iH rfl rfl ?_|refine fT ?_));exact hq.out):p:=h ⟨k⟩
theorem Tk (k:q) (h:Hid q->p:=by intro hq;(repeat' (first|refine gF k (o'+k*12) rfl rfl rfl hk rfl (by omega) ?_|refine fT ?_));exact hq.out):p:=h ⟨k⟩
theorem W2 (k:q) (h:Hid q->p:=by intro hq;(repeat' (first|refine gq (op:= .eql) (b:=[]) (r:=false) rfl rfl (by simp[hZ,g1]) ?_|refine fT ?_));exact hq.out):p:=h ⟨k⟩
theorem aaL (k:q) (h:Hid q->p:=by intro hq;(repeat' (first|refine gF i (o+i*2) rfl rfl rfl rfl rfl fW ?_|refine gq (op:= .eql) (r:=false) rfl rfl (by simp[hZ,e]) ?_|refine fT ?_));exact hq.out):p:=h ⟨k⟩
theorem Z5 (k:q) (h:Hid q->p:=by intro hq;(repeat' (first|refine gF i (o+i*2) rfl rfl rfl rfl rfl fW ?_|refine gq (op:= .eql) (r:=true) rfl rfl (by simp[hZ,e]) ?_|refine fT ?_));exact hq.out):p:=h ⟨k⟩
theorem Zh (k:q) (h:Hid q->p:=by intro hq;(repeat' (first|refine gF 0 (o+0*2) rfl rfl rfl rfl rfl (by omega) ?_|refine gF k (o3+k*12) rfl rfl rfl hk rfl (by omega) ?_|refine fT ?_));exact hq.out):p:=h ⟨k⟩
theorem YX (k:q) (h:Hid q->p:=by intro hq;(repeat' (first|refine gF 0 (o+0*2) rfl rfl rfl rfl rfl (by omega) ?_|refine gF k (o'+k*12) rfl rfl rfl hk rfl (by omega) ?_|refine fT ?_));exact hq.out):p:=h ⟨k⟩
theorem Xf (k:q) (h:Hid q->p:=by intro hq;(repeat' (first|refine gq (op:= .neq) (r:=false) rfl rfl (by simp[hZ,e4]) ?_|refine fT ?_));exact hq.out):p:=h ⟨k⟩
theorem Xr (k:q) (h:Hid q->p:=by intro hq;(repeat' (first|refine gF i (o+i*12) rfl rfl rfl rfl rfl fW ?_|refine fT ?_));exact hq.out):p:=h ⟨k⟩
theorem Uf (k:q) (h:Hid q->p:=by intro hq;(repeat' (first|refine iH rfl rfl ?_|refine fT ?_));exact hq.out):p:=h ⟨k⟩
section
inductive S8 where
 |p|r|h|w
 deriving DecidableEq
def cls (fD fC:TypeId->Bool):Op->S8
 | .move _| .assign _| .pick .. | .build .. | .nilCheck _| .binOp .. | .unOp .. | .fieldAddr .. | .field .. | .indexAddr .. | .index .. | .slice .. | .extract .. | .makeFunc .. => .p
 | .convert s d _=>if fD s&&fD d then .p else if fC d then .r else .w
 | .call {callee:= .builtin .len,.. }=> .p
 | .call {callee:= .builtin .min,.. }=> .p
 | .call {callee:= .builtin .max,.. }=> .p
 | .load .. => .r
 |_=> .w
def out (P:Program) (r:Result Next) (S:Value->World->Prop):Prop:=
 match r with
 | .ok (.value v) w'=>S v w'
 | .ok .skip w'=>S undef w'
 | .ok (.enter f args) w'=>Calls P f args w' (λe a=>∃v,e= .returned v/\S v a)
 |_=>False
def nK:List Nat->Option Nat->Bool
 |_,none=>false
 |[],_=>false
 |k::r,some t=>match Nat.beq k t with
  |true=>true
  |false=>nK r (some t)
def iT (fD fC:TypeId->Bool) (hs:List Nat) (o:Oper):S8:=match cls fD fC o.op with
 | .r=>match nK hs o.dst with
  |true=> .h
  |false=> .r
 |c=>c
def vN (P:Program) (H:World->Prop) (c:S8) (s:Sem Next) (w:World) (S:Value->World->Prop):Prop:=
 match c with
 | .p=>∃v,(∀w',s.run P w'= .ok (.value v) w')/\S v w
 | .r=>∃v,s.run P w= .ok (.value v) w/\S v w
 | .h=>∃v,(∀w',H w'->s.run P w'= .ok (.value v) w')/\S v w
 | .w=>out P (s.run P w) (λv w'=>H w'/\S v w')
variable {P:Program} {fD fC:TypeId->Bool} {hs:List Nat} {H:World->Prop}
theorem uU {r:Result Next} {S d:Value->World->Prop} (h:∀v w,S v w->d v w) (a:out P r S):out P r d:=by
 cases r with
 |halt x w=>exact a
 |ok n w=>
  cases n with
  |value v=>exact h _ _ a
  |skip=>exact h _ _ a
  |enter f args=>exact pP a fS
  |_=>exact a
theorem kd {c:S8} {s:Sem Next} {S f:Value->World->Prop} (hw:H w) (h:∀v w,H w->S v w->f v w) (d:vN P H c s w S):vN P H c s w f:=by
 cases c with
 |p=>obtain⟨v,h1,a⟩:=d;exact⟨v,h1,h _ _ hw a⟩
 |r=>obtain⟨v,h1,a⟩:=d;exact⟨v,h1,h _ _ hw a⟩
 |h=>obtain⟨v,h1,a⟩:=d;exact⟨v,h1,h _ _ hw a⟩
 |w=>exact uU fS d
theorem QO {r:Result Next} {S:Value->World->Prop} (h:out P r S):∃v w,S v w:=by
 unfold out at h;split at h
 ·exact⟨_,_,h⟩
 ·exact⟨_,_,h⟩
 ·obtain⟨e,w',fr,⟨v,_,k⟩,_⟩:=h []
  grind
 ·exact h.elim
theorem wF {c:S8} {s:Sem Next} {S:Value->World->Prop} (hw:H w) (h:vN P H c s w S):∃v w',H w'/\S v w':=by
 cases c with
 |p=>obtain⟨v,_,a⟩:=h;grind
 |r=>obtain⟨v,_,a⟩:=h;grind
 |h=>obtain⟨v,_,a⟩:=h;grind
 |w=>obtain⟨v,w',h1,a⟩:=QO h;grind
def Pq:S8->S8->Bool
 | .p,_|_,.p=>true
 | .h,_|_,.h=>true
 | .r,.r=>true
 |_,_=>false
theorem Ms {c d:S8} {s t:Sem Next} {S:Value->Value->World->Prop} (hc:Pq c d=true) (hw:H w)
  (h:vN P H c s w (λv w'=>vN P H d t w' (λu f=>S v u f))):vN P H d t w (λu w'=>vN P H c s w' (λv f=>S v u f)):=by
 cases d with
 |p=>
  obtain⟨v0,w0,_,u,hu,_⟩:=wF hw h;refine⟨u,hu,kd hw (λv w' _ ⟨m,g,k⟩=>?_) h⟩
  simp_all
 |h=>
  obtain⟨v0,w0,_,u,hu,_⟩:=wF hw h;refine⟨u,hu,kd hw (λv w' n ⟨m,g,k⟩=>?_) h⟩
  grind
 |r=>
  cases c with
  |p=>obtain⟨v,a,u,hu,k⟩:=h;exact⟨u,hu,v,a,k⟩
  |h=>obtain⟨v,a,u,hu,k⟩:=h;exact⟨u,hu,v,a,k⟩
  |r=>obtain⟨v,a,u,hu,k⟩:=h;exact⟨u,hu,v,a,k⟩
  |w=>cases hc
 |w=>
  cases c with
  |p=>obtain⟨v,a,k⟩:=h;exact kd (c:= .w) hw (λu w' _ k=>⟨v,a,k⟩) k
  |h=>obtain⟨v,a,k⟩:=h;exact kd (c:= .w) hw (λu w' _ k=>⟨v,a,k⟩) k
  |r=>cases hc
  |w=>cases hc
def s1 (P:Program) (fD fC:TypeId->Bool) (hs:List Nat) (H:World->Prop) (full:Array Oper) (o:Oper) (K:Act->World->Prop) (a:Act) (w:World):Prop:=
 if Region.wanted o (yielded full a.tmps)=true then vN P H (iT fD fC hs o) (execOp a.eval o) w (λv w'=>K (a.put o.dst v) w')
 else K (a.put o.dst undef) w
theorem x4 {o:Oper} {K K':Act->World->Prop} {a:Act} (f:H w) (h:∀a w,H w->K a w->K' a w) (d:s1 P fD fC hs H full o K a w):s1 P fD fC hs H full o K' a w:=by
 grind [s1,kd]
theorem KP {x y:Oper} {K:Act->World->Prop} {a:Act} (hw:H w) (g:x.apart full y=true) (hc:Pq (iT fD fC hs x) (iT fD fC hs y)=true)
  (m:∀cs b,x.op≠ .select cs b) (n:∀cs b,y.op≠ .select cs b)
  (h:s1 P fD fC hs H full x (s1 P fD fC hs H full y K) a w):s1 P fD fC hs H full y (s1 P fD fC hs H full x K) a w:=by
 obtain⟨h1,D,f⟩:=Oper.apart_spec g;have C:∀v,Region.wanted y (yielded full (a.put x.dst v).tmps)=Region.wanted y (yielded full a.tmps):=by grind [wanted_put]
 have B:∀v,Region.wanted x (yielded full (a.put y.dst v).tmps)=Region.wanted x (yielded full a.tmps):=by grind [wanted_put]
 have d:∀v,execOp (a.put x.dst v).eval y=execOp a.eval y:=λv=>execOp_put y n a x.dst v h1
 have ex:∀v,execOp (a.put y.dst v).eval x=execOp a.eval x:=λv=>execOp_put x m a y.dst v f
 have pc:∀(v u:Value),(a.put x.dst v).put y.dst u=(a.put y.dst u).put x.dst v:=by grind [Act.put_comm]
 unfold s1 at*;simp only[C,B,d,ex,pc]at*
 by_cases s:Region.wanted x (yielded full a.tmps)=true<;>by_cases t:Region.wanted y (yielded full a.tmps)=true<;>
  simp only[s,t,if_true,if_false,EW]at h⊢
 ·exact Ms hc hw h
 ·exact h
 ·exact h
 ·exact h
theorem oi {i:Nat} {o:Oper} {K K':Act->World->Prop} {Q:Exit->Act->World->Prop} {a:Act} (g:H w) (f:∀a w,H w->K a w->K' a w) (hi:full[i]? =some o) (h:s1 P fD fC hs H full o K a w):wpOp P full Q i K' a w:=by
 unfold wpOp;rw[hi];unfold s1 at h;dsimp only;split
 ·rename_i hw;rw[if_pos hw]at h;refine .inl ?_;generalize iT fD fC hs o=c at h;cases c with
  |p=>obtain⟨v,h1,d⟩:=h;grind [Oper.wp,Oper.upon]
  |r=>obtain⟨v,h1,d⟩:=h;grind [Oper.wp,Oper.upon]
  |h=>obtain⟨v,h1,d⟩:=h;grind [Oper.wp,Oper.upon]
  |w=>
   unfold Oper.wp;unfold vN out at h;dsimp only at h;split at h
   ·rename_i e;rw[e];exact f _ _ h.1 h.2
   ·rename_i e;rw[e];exact f _ _ h.1 h.2
   ·rename_i e;rw[e];exact pP h fS
   ·exact h.elim
 grind
def ss (P:Program) (fD fC:TypeId->Bool) (hs:List Nat) (H:World->Prop) (full:Array Oper) (K:Act->World->Prop):List Nat->Act->World->Prop
 |[],a,w=>K a w
 |i::rest,a,w=>match full[i]? with
  |none=>False
  |some o=>s1 P fD fC hs H full o (ss P fD fC hs H full K rest) a w
def free (fD fC:TypeId->Bool) (hs:List Nat) (full:Array Oper) (j i:Nat):Bool:=
 match full[j]?,full[i]? with
 |some x,some y=>x.apart full y&&Pq (iT fD fC hs x) (iT fD fC hs y)
 |_,_=>false
theorem ub {full:Array Oper} {K:Act->World->Prop} (n:Region.noSelect full=true) {i:Nat} {o:Oper} (f:full[i]? =some o) (l2:List Nat):∀(l1:List Nat) (a:Act) (w:World),
  (∀j∈l1,free fD fC hs full j i=true)->H w->ss P fD fC hs H full K (l1++i::l2) a w->s1 P fD fC hs H full o (ss P fD fC hs H full K (l1++l2)) a w
 |[],a,w,_,_,h=>by grind [ss]
 | j::l1,a,w,m,hw,h=>by
  have d:=m j ir;unfold free at d;cases g:full[j]? with
  |none=>grind
  | some x=>
   rw[g,f]at d;simp only[iO]at d;simp only[qp,ss,g]at h⊢
   exact KP hw d.1 d.2 (by grind [Region.noSelect_spec]) (by grind [Region.noSelect_spec])
    (x4 hw (λa w s k=>ub n f l2 l1 a w fS s k) h)
def Au (fD fC:TypeId->Bool) (hs:List Nat) (full:Array Oper) (A:Array Nat):Bool:=
 Region.noSelect full&&(List.range full.size).all λi=>
  match full[i]? with
  |none=>false
  | some o=>
   (o.after.all λe=>!Region.binds .any e||decide (e.on<i))&&
   (List.range i).all λj=>
    if(A.getD i 0).testBit j then o.after.any λe=>Region.binds .any e&&(e.on==j||(decide (j<e.on)&&(A.getD e.on 0).testBit j))
    else free fD fC hs full j i
structure OU (fD fC:TypeId->Bool) (hs:List Nat) (full:Array Oper) (A:Array Nat):Prop where
 Vi:Region.noSelect full=true
 down:∀i o,full[i]? =some o->∀e∈o.after,Region.binds .any e=true->e.on<i
 VO:∀i o,full[i]? =some o->∀j,j<i->(A.getD i 0).testBit j=true->∃e∈o.after,Region.binds .any e=true/\(e.on=j∨(j<e.on/\(A.getD e.on 0).testBit j=true))
 fre:∀i o,full[i]? =some o->∀j,j<i->(A.getD i 0).testBit j=false->free fD fC hs full j i=true
theorem Iq {A:Array Nat} (h:Au fD fC hs full A=true):OU fD fC hs full A:=by
 unfold Au at h;rw[iO]at h
 have g:∀i o,full[i]? =some o->(o.after.all λe=>!Region.binds .any e||decide (e.on<i))=true/\
   ∀j,j<i->(if(A.getD i 0).testBit j then o.after.any λe=>Region.binds .any e&&(e.on==j||(decide (j<e.on)&&(A.getD e.on 0).testBit j))
    else free fD fC hs full j i)=true:=fS
 refine⟨h.1,λi o a e he m=>?_,λi o a j f d=>?_,λi o a j f d=>?_⟩<;>grind [Array.all_eq_true_iff_forall_mem,Array.any_eq_true']
theorem Js {A:Array Nat} (hq:OU fD fC hs full A) (x:listed.size=full.size)
  (down:∀i o,full[i]? =some o->listed.getD i false=true->∀e∈o.after,Region.binds .any e=true->listed.getD e.on false=true) {j:Nat}:
  ∀(m k:Nat),k<m->listed.getD k false=true->(A.getD k 0).testBit j=true->j<k->listed.getD j false=true:=by
 intro m
 induction m with
 |zero=>intro k hk;omega
 | succ m v=>
  intro k hk t n s
  have w:k<full.size:=by
   rcases pT k full.size with a|a
   ·exact a
   ·grind
  obtain⟨ok,d⟩:∃ok,full[k]? =some ok:=mu;obtain⟨e,he,f,u⟩:=hq.VO k ok d j s n;have hle:=down k ok d t e he f;rcases u with a|⟨fW,g⟩
  ·grind
  ·exact v e.on (by have:=hq.down k ok d e he f;omega) hle g fW
theorem H3 {A:Array Nat} (hq:OU fD fC hs full A) {K:Act->World->Prop} {Q:Exit->Act->World->Prop} (u:∀a w,K a w->Q .normal a w):
  ∀(fuel:Nat) (listed:Array Bool) (l:List Nat) (a:Act) (w:World),H w->listed.size=full.size->l.length<=fuel->l.Pairwise (· <·)->(∀i,i∈l↔i<full.size/\listed.getD i false=false)->
   (∀i o,full[i]? =some o->listed.getD i false=true->∀e∈o.after,Region.binds .any e=true->listed.getD e.on false=true)->
   ss P fD fC hs H full K l a w->wpAny P .any full Q fuel listed a w:=by
 intro fuel
 have start:∀(listed:Array Bool) (l:List Nat) (a:Act) (w:World),listed.size=full.size->l.Pairwise (· <·)->(∀i,i∈l↔i<full.size/\listed.getD i false=false)->ss P fD fC hs H full K l a w->
   Region.ready .any full listed=[]->Q .normal a w:=by
  intro listed l a w n s g h x;cases l with
  |nil=>exact u _ _ h
  | cons i r=>
   exfalso;have hi:=(g i).1 ir;obtain⟨o,d⟩:∃o,full[i]? =some o:=mu
   have:i∈Region.ready .any full listed:=by
    rw[mem_ready];refine⟨?_,o,d,λe he m=>?_⟩
    ·grind
    ·have fW:=hq.down i o d e he m
     grind [List.rel_of_pairwise_cons]
   grind
 induction fuel with
 | zero=>
  intro listed l a w hw n hlen s g v h;have J:l=[]:=fS;subst J;refine⟨?_,u _ _ h⟩;cases x:Region.ready .any full listed with
  |nil=>rfl
  |cons i r=>
   exfalso;have hi:i∈Region.ready .any full listed:=by rw[x];simp
   grind [mem_ready,Array.size,Array.getElem?_eq_some_iff,Array.getD_eq_getD_getElem?,Array.getElem?_eq_getElem]
 | succ fuel R=>
  intro listed l a w hw n hlen s g v h;refine⟨fS,λi hi=>?_⟩;obtain⟨h0,o,d,C⟩:=mem_ready.1 hi;have fW:i<full.size:=fS
  have N:listed.getD i false=false:=by
   rw[pf,wi fy]at h0⊢;simpa using h0
  obtain⟨l1,l2,rfl⟩:=PO ((g i).2 ⟨fW,N⟩)
  have D:∀j∈l1,free fD fC hs full j i=true:=λj E=>by
   have f:j<i:=fS;have U:=((g j).1 (by simp[E])).2;cases t:(A.getD i 0).testBit j with
   |false=>exact hq.fre i o d j f t
   | true=>
    exfalso;obtain⟨e,he,m,L⟩:=hq.VO i o d j f t;have hle:=C e he m
    have:listed.getD j false=true:=by
     rcases L with T|⟨I,B⟩
     ·grind
     ·exact Js hq n v (e.on+1) e.on fy hle B I
    grind
  refine oi (fD:=fD) (fC:=fC) (hs:=hs) hw (λy w' O k=>?_) d (ub hq.Vi d l2 l1 a w D hw h);have M:=j6.1 s;have W:=jr.1 M.2.1;refine R _ (l1++l2) y w' O (by simpa using n) fS fS (λj=>?_) ?_ k
  ·by_cases f:j=i
   ·subst f;constructor
    ·grind
    simp_all
   ·rw[getD_set_ne false (uM f),←g j];simp[f]
  ·intro S ok V G e he m;refine getD_set_true ?_
   by_cases F:S=i
   ·grind
   ·rw[getD_set_ne false (uM F)]at G
    grind
theorem u7 {id:Nat} {K:Act->World->Prop} {Q:Exit->Act->World->Prop} {a:Act} (hm:P.follows .mixedOrders=true) (hw:H w.drew)
  (hq:Au fD fC hs full (Region.before full)=true) (d:∀a w,K a w->Q .normal a w)
  (h:ss P fD fC hs H full K (List.range full.size) a w.drew):(Code.region id full true).wp P Q a w:=
 wp_region_any hm (H3 (Iq hq) d full.size _ (List.range full.size) a _ hw ir ir QA
  mu (λi o g f=>by
   exfalso;rw[pf,Ry]at f
   grind) h)
theorem wU {full:Array Oper} {K:Act->World->Prop} {Q:Exit->Act->World->Prop} (d:∀a w,K a w->Q .normal a w):∀(l:List Nat) (a:Act) (w:World),H w->ss P fD fC hs H full K l a w->wpOps P full Q l a w
 |[],a,w,_,h=>d _ _ h
 |i::l,a,w,hw,h=>by
  rw[wpOps_cons];simp only[ss]at h;split at h
  ·exact h.elim
  ·rename_i o f;exact oi hw (λa w hw k=>wU d l a w hw k) f h
theorem sU {id:Nat} {K:Act->World->Prop} {Q:Exit->Act->World->Prop} {a:Act} (hw:H w) (d:∀a w,K a w->Q .normal a w)
  (h:ss P fD fC hs H full K (List.range full.size) a w):(Code.region id full false).wp P Q a w:=
 wp_region (wU d _ a w hw h)
end
section
abbrev Env:=List (Nat×Value)
def look:Env->Nat->Option Value
 |[],_=>none
 |(k,v)::r,t=>match Nat.beq k t with
  |true=>some v
  |false=>look r t
def gh (env:Env):Operand->Option Value
 | .tmp t=>look env t
 | .const v=>some v
 | .global g=>some (.pointer (some ⟨g,0,none⟩))
 | .func f=>some (.func (.func f) #[] #[])
def ev (env:Env) (x:Operand):Value:=(gh env x).getD undef
def Fits (N:Nat) (env:Env) (a:Act):Prop:=a.defers=[]/\a.tmps.size=N/\∀t v,look env t=some v->a.tmps[t]? =some v
def put (env:Env):Option Tmp->Value->Env
 |some d,v=>(d,v)::env
 |none,_=>env
theorem kf (k:Nat) (v:Value) (r:Env) (t:Nat):look ((k,v)::r) t=if k=t then some v else look r t:=by
 simp only[look]
 by_cases h:k=t
 ·subst h;simp
 grind [Nat.beq,absurd,Nat.eq_of_beq_eq_true]
theorem Fits.eval {N:Nat} {env:Env} {a:Act} (h:Fits N env a) {x:Operand} {v:Value} (d:gh env x=some v):a.eval x=v:=by
 cases x with
 |tmp t=>simp only[Act.eval];rw[pf,h.2.2 t v d];rfl
 |const u=>injection d
 |global g=>injection d
 |func f=>injection d
theorem Fits.put {N:Nat} {env:Env} {a:Act} (h:Fits N env a) (d:Option Tmp) (m:∀t,d=some t->t<N) (v:Value):Fits N (put env d v) (a.put d v):=by
 obtain⟨h1,f,g⟩:=h;cases d with
 |none=>exact⟨h1,f,g⟩
 |some d=>
  refine⟨h1,by grind [Act.put],λt u hu=>?_⟩
  grind [gp.put,kf,Act.put,Array.getElem?_setIfInBounds_self_of_lt,Array.getElem?_setIfInBounds_ne]
def fX (env:Env) (o:Oper):Bool:=o.op.operands.toList.all λx=>(gh env x).isSome
theorem DI {env:Env} {a:Act} (h:Fits N env a) {o:Oper} (hs:∀cs b,o.op≠ .select cs b) (f:fX env o=true):execOp (ev env) o=execOp a.eval o:=
 execOp_congr o hs λx g=>by
  have:=lj.1 f x (by simpa using g);obtain⟨v,d⟩:=qQ.1 this;rw[h.eval d];simp[ev,d]
def gv (full:Array Oper) (env:Env) (g:Option (Nat×Bool)):Option Bool:=
 match g with
 |none=>some true
 | some (j,want)=>match(full[j]?).bind (·.dst)with
  |none=>some false
  |some d=>match look env d with
   |some (.bool true)=>some want
   |some (.bool false)=>some (!want)
   |some _=>some false
   |none=>none
theorem vM {env:Env} {a:Act} (h:Fits N env a) {o:Oper} {b:Bool} (f:gv full env o.guard=some b):Region.wanted o (yielded full a.tmps)=b:=by
 unfold gv at f;unfold Region.wanted;cases n:o.guard with
 |none=>grind
 | some s=>
  obtain⟨j,want⟩:=s;rw[n]at f;dsimp only at f⊢;unfold yielded;cases m:(full[j]?).bind (·.dst)with
  |none=>grind
  | some d=>
   rw[m]at f;dsimp only at f;cases g:look env d with
   |none=>grind
   |some v=>
    rw[g]at f;simp only[C4,h.2.2 d v g];cases v with
    |bool c=>cases c<;>injection f with f<;>subst f<;>cases want<;>rfl
    |_=>injection f
variable {P:Program} {fD fC:TypeId->Bool} {hs:List Nat} {H:World->Prop}
def xs (P:Program) (fD fC:TypeId->Bool) (hs:List Nat) (H:World->Prop) (full:Array Oper) (K:Env->World->Prop):List Oper->Env->World->Prop
 |[],env,w=>K env w
 | o::rest,env,w=>∃g,gv full env o.guard=some g/\
   (g=true->fX env o=true/\vN P H (iT fD fC hs o) (execOp (ev env) o) w (λv w'=>xs P fD fC hs H full K rest (put env o.dst v) w'))/\
   (g=false->xs P fD fC hs H full K rest (put env o.dst undef) w)
theorem pq {N:Nat} {full:Array Oper} {K:Env->World->Prop} (u:Region.noSelect full=true) (f:∀(i:Nat) (o:Oper),full[i]? =some o->∀t,o.dst=some t->t<N):
  ∀(l:List Oper) (k:Nat) (env:Env) (a:Act) (w:World),(∀j,l[j]? =full[k+j]?)->H w->Fits N env a->xs P fD fC hs H full K l env w->
   ss P fD fC hs H full (λx w'=>∃m,Fits N m x/\K m w') (List.range' k l.length) a w
 |[],k,env,a,w,_,_,d,h=>⟨env,d,h⟩
 | o::l,k,env,a,w,n,hw,d,h=>by
  have h0:full[k]? =some o:=by simpa using(n 0).symm
  have s:∀j,l[j]? =full[k+1+j]? :=λj=>by have:=n (j+1);grind
  obtain⟨g,C,ht,B⟩:=h;simp only[iA,Kx,ss,h0];unfold s1;rw[vM d C];cases g with
  |true=>
   obtain⟨D,y⟩:=ht rfl;rw[if_pos rfl,←DI d (by grind [Region.noSelect_spec]) D];exact kd hw (λv w' E F=>pq u f l (k+1) _ _ w' s E (d.put o.dst (f k o h0) v) F) y
  |false=>
   rw[if_neg fV];exact pq u f l (k+1) _ _ w s hw (d.put o.dst (f k o h0) undef) (B fx)
inductive It where
 |code (c:Code)
 |gH (id:Nat)
 |fin (J:Env->World->Prop)
 |vH (J:Nat->Env->World->Prop)
def Fj (P:Program) (N:Nat) (Q:Exit->Act->World->Prop):List It->Exit->Act->World->Prop
 |[]=>Q
 | .code c::k=>Exit.then (λa w=>c.wp P (Fj P N Q k) a w) (Fj P N Q k)
 | .gH id::k=>Exit.inBlock id (Fj P N Q k)
 | .fin d::k=>Exit.then (λa w=>∃env,Fits N env a/\d env w) (Fj P N Q k)
 | .vH d::k=>λe a w=>match e with
  | .goto l=>∃env,Fits N env a/\d l env w
  |e=>Fj P N Q k e a w
def R7 (a:Value->World->Prop):Ending->World->Prop:=λe w=>∃v,e= .returned v/\a v w
def fL (P:Program) (f:FuncId) (args:Array Value) (w:World) (a:Value->World->Prop):Prop:=Calls P f args w (R7 a)
theorem fL.mono {f:FuncId} {args:Array Value} {a d:Value->World->Prop} (h:fL P f args w a) (g:∀v w',a v w'->d v w'):fL P f args w d:=
 pP h λ_ _ ⟨v,he,k⟩=>⟨v,he,g _ _ k⟩
def T (P:Program) (fn:Func) (d:Value->World->Prop) (k:List It) (env:Env) (w:World):Prop:=
 ∀a,Fits fn.ntmps env a->Fj P fn.ntmps (bodyPost P fn (R7 d)) k .normal a w
variable {fn:Func} {R:Value->World->Prop} {k:List It} {env:Env} {w:World}
theorem ng {x y:Code} (h:T P fn R (.code x:: .code y::k) env w):T P fn R (.code (.seq x y)::k) env w:=λa d=>wp_seq (h a d)
theorem nD (h:T P fn R k env w):T P fn R (.code .skip::k) env w:=λa d=>wp_skip (h a d)
theorem hv {l:Nat} (h:T P fn R k env w):T P fn R (.code (.label l)::k) env w:=λa d=>wp_label (h a d)
theorem pa {id:Nat} {c:Code} (h:T P fn R (.code c:: .gH id::k) env w):T P fn R (.code (.block id c)::k) env w:=λa d=>wp_block (h a d)
theorem Bg {id:Nat} (h:T P fn R k env w):T P fn R (.gH id::k) env w:=λa d=>h a d
theorem gn {a:Env->World->Prop} (h:a env w):T P fn R (.fin a::k) env w:=λ_ d=>⟨env,d,h⟩
theorem RH {c:Operand} {x y:Code} (hc:gh env c=some (.bool true)) (h:T P fn R (.code x::k) env w):T P fn R (.code (.cond c x y)::k) env w:=λa d=>wp_cond_true (d.eval hc) (h a d)
theorem Pw {c:Operand} {x y:Code} (hc:gh env c=some (.bool false)) (h:T P fn R (.code y::k) env w):T P fn R (.code (.cond c x y)::k) env w:=λa d=>wp_cond_false (d.eval hc) (h a d)
def Gn (id:Nat):List It->Option (List It)
 |[]=>none
 | .gH i::k=>match Nat.beq i id with
  |true=>some k
  |false=>Gn id k
 |_::k=>Gn id k
theorem rN {N:Nat} {Q:Exit->Act->World->Prop} {id:Nat} {a:Act} {w:World}:∀{k d:List It},Gn id k=some d->Fj P N Q d .normal a w->Fj P N Q k (.exit id) a w
 |[],_,h,_=>by cases h
 | .gH i::k,d,h,hs=>by
  simp only[Gn]at h;show Exit.inBlock i (Fj P N Q k) (.exit id) a w
  simp only[Exit.inBlock];split at h
  ·simp_all
  ·rename_i g;rw[if_neg (by grind [Nat.beq_refl])];exact rN h hs
 | .code c::k,d,h,hs=>rN (k:=k) h hs
 | .fin f::k,d,h,hs=>rN (k:=k) h hs
 | .vH f::k,d,h,hs=>rN (k:=k) h hs
theorem nA {id:Nat} {d:List It} (he:Gn id k=some d) (h:T P fn R d env w):T P fn R (.code (.exit id)::k) env w:=λa f=>wp_exit (rN he (h a f))
def RN:List It->Option (Nat->Env->World->Prop)
 |[]=>none
 | .vH a::_=>some a
 |_::k=>RN k
theorem vq {N:Nat} {Q:Exit->Act->World->Prop} {l:Nat} {g:Nat->Env->World->Prop} {a:Act} {env:Env} {w:World} (f:Fits N env a) (d:g l env w):∀{k:List It},RN k=some g->Fj P N Q k (.goto l) a w
 |[],h=>by cases h
 | .vH m::k,h=>by injection h with h;subst h;exact⟨env,f,d⟩
 | .code c::k,h=>vq f d (k:=k) h
 | .gH i::k,h=>vq f d (k:=k) h
 | .fin m::k,h=>vq f d (k:=k) h
theorem gX {l:Nat} {a:Nat->Env->World->Prop} (hk:RN k=some a) (h:a l env w):T P fn R (.code (.goto l)::k) env w:=λ_ d=>wp_goto (vq d h hk)
theorem mM {N:Nat} {Q:Exit->Act->World->Prop} {a:Act} {w:World} (h:Q .ret a w):∀k:List It,Fj P N Q k .ret a w
 |[]=>h
 | .code _::k=>mM h k
 | .gH _::k=>mM h k
 | .fin _::k=>mM h k
 | .vH _::k=>mM h k
theorem fB {t:Tmp} (f:fn.results= #[.tmp t]) (g:look env t=some v) (h:R v w):T P fn R (.code .ret::k) env w:=λa d=>
 wp_ret (mM (show bodyPost P fn (R7 R) .ret a w from⟨d.1,v,by rw[results_tmp f,pf,d.2.2 t v g];rfl,v,rfl,h⟩) k)
theorem ia {t:Tmp} (g:fn.results= #[.tmp t,.tmp u]) (m:look env t=some v) (n:look env u=some f) (h:R (.tuple #[v,f]) w):T P fn R (.code .ret::k) env w:=λa d=>
 wp_ret (mM (show bodyPost P fn (R7 R) .ret a w from⟨d.1,_,by rw[results_tmp2 g,pf,pf,d.2.2 t v m,d.2.2 u f n];rfl,_,rfl,h⟩) k)
theorem results3 {t s:Tmp} (h:fn.results= #[.tmp t,.tmp u,.tmp s]) (tmps:Array Value) (P:Program) (w:World):
  (results fn tmps).run P w= .ok (.tuple #[tmps.getD t undef,tmps.getD u undef,tmps.getD s undef]) w:=by simp[results,h]
theorem PX {t s:Tmp} {g:Value} (m:fn.results= #[.tmp t,.tmp u,.tmp s]) (n:look env t=some v) (x:look env u=some f) (y:look env s=some g) (h:R (.tuple #[v,f,g]) w):T P fn R (.code .ret::k) env w:=λa d=>
 wp_ret (mM (show bodyPost P fn (R7 R) .ret a w from⟨d.1,_,by rw[results3 m,pf,pf,pf,d.2.2 t v n,d.2.2 u f x,d.2.2 s g y];rfl,_,rfl,h⟩) k)
theorem F8 (f:fn.results= #[]) (h:R (.tuple #[]) w):T P fn R (.code .ret::k) env w:=λa d=>
 wp_ret (mM (show bodyPost P fn (R7 R) .ret a w from⟨d.1,_,results_none f _ _ _,_,rfl,h⟩) k)
theorem lX (f:fn.results= #[]) (h:R (.tuple #[]) w):T P fn R [] env w:=λa d=>
 show bodyPost P fn (R7 R) .normal a w from⟨d.1,_,results_none f _ _ _,_,rfl,h⟩
def Sub (e env:Env):Prop:=∀t v,look e t=some v->look env t=some v
def ZU:Env->Env->Prop
 |[],_=>True
 |[(t,v)],env=>look env t=some v
 |(t,v)::r,env=>look env t=some v/\ZU r env
theorem sub:∀{e env:Env},ZU e env->Sub e env
 |[],_,_=>λt v h=>by cases h
 |[(t',a)],env,hs=>λt v h=>by
  rw[kf]at h;split at h
  ·rename_i e;subst e;injection h with h;subst h;exact hs
  ·cases h
 |(t',a)::x::r,env,hs=>λt v h=>by
  rw[kf]at h;split at h
  ·rename_i e;subst e;injection h with h;subst h;exact hs.1
  ·exact sub hs.2 t v h
theorem Fits.sub {e env:Env} {a:Act} (h:Fits N env a) (hs:Sub e env):Fits N e a:=⟨h.1,h.2.1,λt v d=>h.2.2 t v (hs t v d)⟩
theorem ic {e:Env} (h:T P fn R k e w) (hs:Sub e env):T P fn R k env w:=λa d=>h a (d.sub hs)
def qB (N:Nat) (full:Array Oper):Bool:=Region.noSelect full&&full.all λo=>match o.dst with
 |some d=>decide (d<N)
 |none=>true
theorem mC (h:qB N full=true):Region.noSelect full=true/\∀(i:Nat) (o:Oper),full[i]? =some o->∀t,o.dst=some t->t<N:=by
 grind [qB,Array.all_eq_true_iff_forall_mem,Array.mem_of_getElem?]
def gL:World->Prop:=λ_=>True
theorem ZG (fD fC:TypeId->Bool) {id:Nat} (g:qB fn.ntmps full=true) (h:xs P fD fC [] gL full (T P fn R k) full.toList env w):T P fn R (.code (.region id full false)::k) env w:=λa m=>by
 obtain⟨hs,g⟩:=mC g;refine sU (fD:=fD) (fC:=fC) (hs:=[]) (H:=gL) trivial (K:=λd w'=>∃f,Fits fn.ntmps f d/\T P fn R k f w') (λd w' ⟨f,n,ht⟩=>ht d n) ?_;have:=pq (N:=fn.ntmps) hs g full.toList 0 env a w ir trivial m h;simpa[Hh]using this
theorem Ql (fD fC:TypeId->Bool) (hs:List Nat) (H:World->Prop) {id:Nat} (hm:P.follows .mixedOrders=true) (g:qB fn.ntmps full=true) (hq:Au fD fC hs full (Region.before full)=true) (hw:H w.drew)
  (h:xs P fD fC hs H full (T P fn R k) full.toList env w.drew):
  T P fn R (.code (.region id full true)::k) env w:=λa m=>by
 obtain⟨s,g⟩:=mC g;refine u7 (fD:=fD) (fC:=fC) (hs:=hs) (H:=H) hm hw hq (K:=λd w'=>∃f,Fits fn.ntmps f d/\T P fn R k f w') (λd w' ⟨f,n,ht⟩=>ht d n) ?_;have:=pq (N:=fn.ntmps) s g full.toList 0 env a w.drew ir hw m h;simpa[Hh]using this
def V7 {α:Type} (E:α->Env) (a:α->World->Prop) (d:α->Nat) (n:Nat):Env->World->Prop:=λenv w=>∃y,Sub (E y) env/\a y w/\d y<n
theorem gA {α:Type} (E:α->Env) (f:α->World->Prop) (d:α->Nat) {c:Code} (g:α) (h0:Sub (E g) env) (m:f g w)
  (round:∀x w,f x w->T P fn R (.code c:: .fin (V7 E f d (d x))::k) (E x) w):T P fn R (.code (.loop c)::k) env w:=λa s=>by
 refine wp_loop_ghost (λn a w=>∃x,d x=n/\Fits fn.ntmps (E x) a/\f x w) (d g) ⟨g,rfl,s.sub h0,m⟩ ?_;rintro n a w ⟨x,rfl,t,m⟩;refine wp_mono (round x w m a t) ?_;intro e B w' hq;cases e with
 |normal=>obtain⟨D,u,y,hs,v,fW⟩:=hq;exact⟨d y,fW,y,rfl,u.sub hs,v⟩
 |exit id=>exact hq
 |goto l=>exact hq
 |ret=>exact hq
 |panic C=>exact hq
 |outgrown=>exact hq
def yo:Code->List It
 | .seq x y=>yo x++[.code y]
 | .skip=>[]
 |c=>[.code c]
def after (c:Code) (l:Nat):Option (List It):=match findLabel c l with
 |some r=>some (yo r)
 |none=>none
theorem yC {N:Nat} {Q:Exit->Act->World->Prop} {a:Act} {w:World}:∀(c:Code) (k:List It),Fj P N Q (yo c++k) .normal a w->c.wp P (Fj P N Q k) a w
 | .seq x y,k,h=>by
  refine wp_seq ?_;rw[yo,j7]at h;exact yC x (.code y::k) h
 | .skip,k,h=>wp_skip h
 | .region ..,k,h=>h
 | .cond ..,k,h=>h
 | .block ..,k,h=>h
 | .loop ..,k,h=>h
 | .rangeFunc ..,k,h=>h
 | .exit ..,k,h=>h
 | .scope ..,k,h=>h
 | .label ..,k,h=>h
 | .goto ..,k,h=>h
 | .ret,k,h=>h
 | .refuse ..,k,h=>h
theorem qx {c:Code} {Q:Exit->Act->World->Prop} {a:Act} {w:World} (s:Nat->Nat->Act->World->Prop) (G:∀l n a w,s l n a w->∃rest,findLabel c l=some rest)
  (first:c.wp P (λe a w=>match e with
   | .goto l=>∃n,s l n a w
   |e=>Q e a w) a w)
  (pass:∀n l rest a w,findLabel c l=some rest->s l n a w->rest.wp P (λe a w=>match e with
   | .goto l=>∃m,m<n/\s l m a w
   |e=>Q e a w) a w):(Code.scope c).wp P Q a w:=by
 intro b k cs;have H:∀l rest,findLabel c l=some rest->gotoIn l (.inScope c::k)=some (.code rest:: .inScope c::k):=by grind [gotoIn]
 have key:∀n l rest a w,findLabel c l=some rest->s l n a w->∃e F w',Q e F w'/\Arrives P (lone (b.at a (.code rest:: .inScope c::k)) cs w) b k cs e F w':=by
  intro n
  induction n using Nat.strongRecOn with
  | _ n L=>
   intro l rest a w K J;obtain⟨e,d,g,hq,f⟩:=pass n l rest a w K J b (.inScope c::k) cs;cases e with
   |normal=>exact⟨.normal,d,g,hq,Steps.trans f (.one step_inScope)⟩
   |exit id=>exact⟨.exit id,d,g,hq,λD hk=>f D (by simp[exitTo,hk])⟩
   |goto l'=>
    obtain⟨m,hm,t⟩:=hq;obtain⟨v,u⟩:=G _ _ _ _ t;obtain⟨y,x,E,C,B⟩:=L m hm l' v d g u t;exact⟨y,x,E,C,.of_steps (f _ (H l' v u)) B⟩
   |ret=>exact⟨_,d,g,hq,f⟩
   |panic I=>exact⟨_,d,g,hq,f⟩
   |outgrown=>exact⟨_,d,g,hq,f⟩
 obtain⟨e,d,g,hq,f⟩:=first b (.inScope c::k) cs
 cases e with
 |normal=>exact⟨.normal,d,g,hq,.head step_scope (Steps.trans f (.one step_inScope))⟩
 |exit id=>exact⟨.exit id,d,g,hq,λD hk=> .head step_scope (f D (by simp[exitTo,hk]))⟩
 |goto l'=>
  obtain⟨n,t⟩:=hq;obtain⟨v,u⟩:=G _ _ _ _ t;obtain⟨y,x,E,C,B⟩:=key n l' v d g u t;exact⟨y,x,E,C,.of_steps (.head step_scope (f _ (H l' v u))) B⟩
 |ret=>exact⟨_,d,g,hq,.of_steps (.one step_scope) f⟩
 |panic I=>exact⟨_,d,g,hq,.of_steps (.one step_scope) f⟩
 |outgrown=>exact⟨_,d,g,hq,.of_steps (.one step_scope) f⟩
theorem kJ {N:Nat} {Q:Exit->Act->World->Prop} {m n:Nat->Env->World->Prop} (f:∀l env w,m l env w->n l env w):∀(k1 k:List It) (e:Exit) (a:Act) (w:World),Fj P N Q (k1++ .vH m::k) e a w->Fj P N Q (k1++ .vH n::k) e a w
 |[],k,e,a,w,h=>by
  cases e with
  |goto l=>obtain⟨env,t,u⟩:=h;exact⟨env,t,f _ _ _ u⟩
  |normal=>exact h
  |exit id=>exact h
  |ret=>exact h
  |panic g=>exact h
  |outgrown=>exact h
 | .code c::k1,k,e,a,w,h=>by
  have d:=kJ (N:=N) (Q:=Q) f k1 k;cases e with
  |normal=>exact wp_mono (c:=c) h d
  |goto l=>exact d _ a w h
  |exit id=>exact d _ a w h
  |ret=>exact d _ a w h
  |panic g=>exact d _ a w h
  |outgrown=>exact d _ a w h
 | .gH i::k1,k,e,a,w,h=>by
  have d:=kJ (N:=N) (Q:=Q) f k1 k;cases e with
  |exit id=>
   have v:Exit.inBlock i (Fj P N Q (k1++ .vH m::k)) (.exit id) a w:=h;show Exit.inBlock i (Fj P N Q (k1++ .vH n::k)) (.exit id) a w
   grind [Exit.inBlock]
  |normal=>exact d _ a w h
  |goto l=>exact d _ a w h
  |ret=>exact d _ a w h
  |panic g=>exact d _ a w h
  |outgrown=>exact d _ a w h
 | .fin s::k1,k,e,a,w,h=>by
  have d:=kJ (N:=N) (Q:=Q) f k1 k;cases e with
  |normal=>exact h
  |exit id=>exact d _ a w h
  |goto l=>exact d _ a w h
  |ret=>exact d _ a w h
  |panic g=>exact d _ a w h
  |outgrown=>exact d _ a w h
 | .vH s::k1,k,e,a,w,h=>by
  have d:=kJ (N:=N) (Q:=Q) f k1 k;cases e with
  |goto l=>exact h
  |normal=>exact d _ a w h
  |exit id=>exact d _ a w h
  |ret=>exact d _ a w h
  |panic g=>exact d _ a w h
  |outgrown=>exact d _ a w h
def Bo (L:Nat->Nat->Env->World->Prop) (n:Nat):Nat->Env->World->Prop:=λl env w=>∃m,m<n/\L l m env w
def Dn (L:Nat->Nat->Env->World->Prop):Nat->Env->World->Prop:=λl env w=>∃m,L l m env w
theorem JU {c:Code} (L:Nat->Nat->Env->World->Prop) (J:∀l n env w,L l n env w->∃ys,after c l=some ys)
  (H:∀n l ys env w,after c l=some ys->L l n env w->
   (∀l' t g w',after c l'=some t->Bo L n l' g w'->T P fn R (t++ .vH (Bo L n)::k) g w')->T P fn R (ys++ .vH (Bo L n)::k) env w)
  (first:(∀l ys env w,after c l=some ys->Dn L l env w->T P fn R (ys++ .vH (Dn L)::k) env w)->T P fn R (.code c:: .vH (Dn L)::k) env w):
  T P fn R (.code (.scope c)::k) env w:=by
 have key:∀n l ys env w,after c l=some ys->L l n env w->T P fn R (ys++ .vH (Bo L n)::k) env w:=by
  intro n
  induction n using Nat.strongRecOn with
  |_ n F=>
   intro l ys env w s f;refine H n l ys env w s f ?_;rintro l' t g w' v ⟨m,hm,E⟩ a d;exact kJ (λG B I ⟨m',K,u⟩=>⟨m',fy,u⟩) t k _ a w' (F m hm l' t g w' v E a d)
 have C:=first (λl ys env w s ⟨m,f⟩ a d=>kJ (λG B I ⟨m',_,u⟩=>⟨m',u⟩) ys k _ a w (key m l ys env w s f a d))
 intro a s;refine qx (λl n a w=>∃env,Fits fn.ntmps env a/\L l n env w) ?_ ?_ ?_
 ·grind [after]
 ·refine wp_mono (C a s) ?_;intro e x w' hq;cases e with
  |goto l=>obtain⟨g,d,m,f⟩:=hq;grind
  |normal=>exact hq
  |exit id=>exact hq
  |ret=>exact hq
  |panic y=>exact hq
  |outgrown=>exact hq
 ·rintro n l rest a w d ⟨env,D,f⟩;have v:after c l=some (yo rest):=by unfold after;rw[d]
  refine wp_mono (yC rest (.vH (Bo L n)::k) (key n l _ env w v f a D)) ?_;intro e x w' hq;cases e with
  |goto l=>obtain⟨g,d,m,hm,f⟩:=hq;grind
  |normal=>exact hq
  |exit id=>exact hq
  |ret=>exact hq
  |panic y=>exact hq
  |outgrown=>exact hq
def At {α:Type} (l0:Nat) (E:α->Env) (a:α->World->Prop) (d:α->Nat):Nat->Nat->Env->World->Prop:=λl n env w=>l=l0/\∃x,Sub (E x) env/\a x w/\d x=n
theorem h9 {α:Type} {c:Code} {ys:List It} (l0:Nat) (m:after c l0=some ys) (E:α->Env) (a:α->World->Prop) (d:α->Nat)
  (s:∀x w,a x w->T P fn R (ys++ .vH (Bo (At l0 E a d) (d x))::k) (E x) w)
  (first:(∀x w,a x w->T P fn R (ys++ .vH (Dn (At l0 E a d))::k) (E x) w)->T P fn R (.code c:: .vH (Dn (At l0 E a d))::k) env w):
  T P fn R (.code (.scope c)::k) env w:=by
 refine JU (At l0 E a d) (λl n env w ⟨he,_⟩=>⟨ys,he▸m⟩) ?_ ?_
 ·rintro n l t env w f ⟨rfl,x,hs,g,rfl⟩ _;rw[m]at f;injection f with f;subst f
  exact ic (s x w g) hs
 ·intro h;refine first λx w g=>?_
  exact h l0 ys (E x) w m ⟨d x,rfl,x,λ_ _ h=>h,g,rfl⟩
theorem BO {args:Array Value} (a:args.size<=N) {e:Env} (he:∀t v,look e t=some v->args[t]? =some v):Fits N e {tmps:=args++Array.replicate (N-args.size) undef,defers:=[]}:=
 ⟨rfl,by simp;omega,fS⟩
def rl:Nat->List Value->Env
 |_,[]=>[]
 |n,v::r=>(n,v)::rl (n+1) r
theorem rF:∀(l:List Value) (n t:Nat) (v:Value),look (rl n l) t=some v->n<=t/\l[t-n]? =some v
 |[],n,t,v,h=>by cases h
 | u::r,n,t,v,h=>by
  rw[rl,kf]at h;split at h
  ·grind
  ·rename_i e;have:=rF r (n+1) t v h
   grind
theorem vz {f:FuncId} {c:Code} {l:List Value} {w:World} (d:P.funcs[f]? =some fn) (a:fn.body=some c) (m:(decide (l.length<=fn.ntmps))=true) (h:T P fn R [.code c] (rl 0 l) w):fL P f l.toArray w R:=
 calls_of_wp d a (h _ (BO (by simpa using m) λt v g=>by simpa using(rF l 0 t v g).2))
theorem gr {f:FuncId} {c:Code} {w:World} (d:P.funcs[f]? =some fn) (a:fn.body=some c) (g:decide (1<=fn.ntmps)=true) (h:T P fn R [.code c] [(0,v0)] w):fL P f #[v0] w R:=vz (l:=[v0]) d a g h
theorem gK {f:FuncId} {c:Code} {w:World} (d:P.funcs[f]? =some fn) (a:fn.body=some c) (g:decide (2<=fn.ntmps)=true) (h:T P fn R [.code c] [(0,v0),(1,v1)] w):fL P f #[v0,v1] w R:=vz (l:=[v0,v1]) d a g h
theorem kz {f:FuncId} {c:Code} {w:World} (d:P.funcs[f]? =some fn) (a:fn.body=some c) (g:decide (3<=fn.ntmps)=true) (h:T P fn R [.code c] [(0,v0),(1,v1),(2,v2)] w):fL P f #[v0,v1,v2] w R:=vz (l:=[v0,v1,v2]) d a g h
theorem wS {f:FuncId} {c:Code} {v3:Value} {w:World} (d:P.funcs[f]? =some fn) (a:fn.body=some c) (g:decide (4<=fn.ntmps)=true) (h:T P fn R [.code c] [(0,v0),(1,v1),(2,v2),(3,v3)] w):fL P f #[v0,v1,v2,v3] w R:=vz (l:=[v0,v1,v2,v3]) d a g h
theorem z7 {f:FuncId} {c:Code} {v3 v4:Value} {w:World} (d:P.funcs[f]? =some fn) (a:fn.body=some c) (g:decide (5<=fn.ntmps)=true) (h:T P fn R [.code c] [(0,v0),(1,v1),(2,v2),(3,v3),(4,v4)] w):fL P f #[v0,v1,v2,v3,v4] w R:=vz (l:=[v0,v1,v2,v3,v4]) d a g h
end
section
def bit (m t:Nat):Bool:=Nat.beq (Nat.mod (Nat.shiftRight m t) 2) 1
def get:List (Nat×Nat)->Nat->Option Nat
 |[],_=>none
 |(k,v)::r,t=>match Nat.beq k t with
  |true=>some v
  |false=>get r t
theorem get_mem:∀{l:List (Nat×Nat)} {t v:Nat},get l t=some v->(t,v)∈l
 |[],_,_,h=>by cases h
 |(k,u)::r,t,v,h=>by
  simp only[get]at h;split at h
  ·rename_i a;injection h with h;subst h;rw[jd a];simp
  ·exact qe _ (get_mem h)
def ZZ:Nat:=2513963986864236956170129687163596148902381091361073758323167770697830755638790058150351430906294392691880973409966134535078853027239981864956309190737920
def ZX:Nat:=46517678354918840995156723704832292438377789261792566415457653316005192560902964327525762145669969159680672562961980768623707775838453772
def acb:Nat:=314245498358029619521266210895449518612797636420134219790395971337228844454848757268793928863286799086485121676245766816884856628404997733119538648580192
def aaG:Nat:=1329227995784915872903807060280344576
def aaz:Nat:=300613450595050653169853516389035139504087366260264943450533244356122755299740472493588087659095171745936576512
def kindOf (t:Nat):Option IntKind:=match bit ZX t with
 |true=>some .i64
 | false=>match bit aaz t with
  |true=>some .u64
  | false=>match bit acb t with
   |true=>some .u8
   | false=>match bit ZZ t with
    |true=>some .i32
    |false=>match bit aaG t with
     |true=>some .u32
     |false=>none
def fD (t:Nat):Bool:=(kindOf t).isSome
def aaf:Nat:=3584
def fC (t:Nat):Bool:=bit aaf t
def aaR:Nat:=16655674401832616816352146737316301720101354971609760726390703334854811625127240934751198788878740047095425267480031951121885243222227083991843030579781246
def one (t:Nat):Bool:=bit aaR t
def Cb:Nat:=26373312190585128360289861984930465443556881129542888232976062048329841926472156904889923614139981944969731722183518149708487059246408663461376786432
def V9:List (Nat×Nat):=[(700,0),(701,1),(702,2),(703,3),(800,0),(801,1),(802,2),(803,3),(1300,0),(1301,1),(1400,0),(1401,1),(1800,0),(1900,0),(2500,0),(2501,1),(2600,0),(2601,1),(3300,0),(3301,1),(3302,2),(3303,3),(3304,4),(3305,5),(3400,0),(3401,1),(3402,2),(3403,3),(3404,4),(3405,5),(3600,0),(3601,1),(3602,7),(3603,8),(3604,9),(3605,10),(3606,11),(3700,0),(3701,1),(3702,7),(3703,8),(3704,9),(3705,10),(3706,11),(3800,0),(3801,1),(3900,0),(3901,1),(4800,0),(4801,1),(4900,0),(4901,1),(6700,0),(6701,1),(6800,0),(6801,1),(6900,0),(6901,1),(6902,2),(7000,0),(7001,1),(7002,2),(8200,0),(8201,1),(8202,2),(8203,3),(8300,0),(8301,1),(8302,2),(8303,3),(8700,0),(8701,1),(8702,2),(8703,3),(8704,4),(8800,0),(8801,1),(8802,2),(8803,3),(8804,4),(13400,0),(13401,1),(13402,2),(13403,3),(13500,0),(13501,1),(13502,2),(13503,3),(13700,0),(13701,1),(13702,2),(13703,3),(13800,0),(13801,1),(13802,2),(13803,3),(14800,0),(14801,1),(14900,0),(14901,1),(17000,0),(17001,1),(17002,2),(17003,14),(17100,0),(17101,1),(17102,2),(17103,14),(18100,0),(18101,1),(18102,2),(18200,0),(18201,1),(18202,2),(18600,0),(18700,0),(19600,0),(19601,8),(19700,0),(19701,8),(21200,0),(21300,0),(26100,0),(26101,1),(26102,2),(26103,3),(30100,0),(30101,1),(30200,0),(30201,1),(32400,0),(32401,1),(32500,0),(32501,1),(32600,0),(32601,1),(32602,2),(32603,3),(32604,4),(32700,0),(32701,1),(32702,2),(32703,3),(32704,4),(41200,0),(41201,1),(41202,2),(41600,0),(41601,1),(41700,0),(41701,1),(42100,0),(42101,1),(42102,2),(42200,0),(42201,1),(42202,2),(42600,0),(42601,1),(42602,2),(42700,0),(42701,1),(42702,2),(44200,0),(44201,1),(44300,0),(44301,1),(45200,0),(45201,1),(45300,0),(45301,1),(46400,0),(46401,1),(46500,0),(46501,1),(46800,0),(46801,13),(46900,0),(46901,13),(47500,0),(47501,1),(47502,2),(47503,3),(47504,4),(47600,0),(47601,1),(47602,2),(47603,3),(47604,4),(48100,0),(48101,1),(48102,2),(48200,0),(48201,1),(48202,2),(49400,0),(49500,0),(50000,0),(50001,1),(50002,2),(50003,3),(50100,0),(50101,1),(50102,2),(50103,3),(51000,0),(51001,1),(51002,2),(51003,3),(51004,4),(51005,5),(51006,6),(51007,7),(51008,8),(51009,9),(51010,10),(51100,0),(51101,1),(51102,2),(51103,3),(51104,4),(51105,5),(51106,6),(51107,7),(51108,8),(51109,9),(51110,10)]
def fo (s f:Nat):Option Nat:=get V9 (s*100+f)
def ZK:List (Nat×Nat):=[(22,1),(23,2),(24,12),(31,2),(32,3),(35,2),(51,1),(74,2),(78,4),(86,1),(117,15),(129,4),(154,1),(177,3),(205,4),(238,1),(248,1),(259,1),(260,4),(282,1),(300,2),(411,3),(474,1)]
def es (t:Nat):Option Nat:=get ZK t
def R9:List (Nat×Nat):=[(121,8),(122,8),(195,8),(200,8),(233,5),(310,4),(311,4),(313,2),(320,3),(460,24),(463,256),(466,16),(467,13),(485,20),(486,65),(498,32),(499,64)]
def SO:List (Nat×Nat):=[(121,1),(122,1),(195,1),(200,1),(233,1),(310,1),(311,4),(313,1),(320,1),(460,1),(463,1),(466,2),(467,1),(485,1),(486,1),(498,1),(499,1)]
def ks:List (Nat×Nat):=[(7,4),(8,4),(13,2),(14,2),(18,1),(19,1),(25,2),(26,2),(33,6),(34,6),(36,12),(37,12),(38,2),(39,2),(48,2),(49,2),(67,2),(68,2),(69,3),(70,3),(82,4),(83,4),(87,6),(88,6),(121,8),(122,8),(134,4),(135,4),(137,4),(138,4),(148,2),(149,2),(170,15),(171,15),(181,3),(182,3),(186,1),(187,1),(195,8),(196,9),(197,9),(200,8),(212,2),(213,2),(233,5),(261,4),(301,2),(302,2),(310,4),(311,16),(313,2),(320,3),(324,2),(325,2),(326,5),(327,5),(412,3),(416,2),(417,2),(421,3),(422,3),(426,3),(427,3),(442,2),(443,2),(452,2),(453,2),(460,24),(463,256),(464,2),(465,2),(466,32),(467,13),(468,26),(469,26),(475,5),(476,5),(481,3),(482,3),(485,20),(486,65),(494,1),(495,1),(498,32),(499,64),(500,4),(501,4),(502,0),(503,0),(504,0),(510,11),(511,11)]
def Et (P:Program) (t:Nat):Bool:=match kindOf t with
 |none=>true
 |some k=>match P.underlying t with
  |some (.int a)=>k==a
  |_=>false
theorem GX:(List.range 1000).all (Et prog)=true:=by kernel_rfl
theorem Jp (t:Nat) (h:t<1000):Et prog t=true:=lj.1 GX t (xK.2 h)
def IG (P:Program) (t:Nat):Bool:=!one t||(match P.underlying t,P.info? t with
  |some (.struct _),_|some (.array _ _),_=>false
  |some _,some i=>i.size==1
  |_,_=>false)
theorem JH:(List.range 1000).all (IG prog)=true:=by kernel_rfl
theorem Md (t:Nat) (h:t<1000):IG prog t=true:=lj.1 JH t (xK.2 h)
def Kf (P:Program) (t:Nat):Bool:=!bit Cb t||(match P.underlying t with
 |some (.pointer _)=>true
 |_=>false)
theorem Ji:(List.range 1000).all (Kf prog)=true:=by kernel_rfl
theorem Mi (t:Nat) (h:t<1000):Kf prog t=true:=lj.1 Ji t (xK.2 h)
def PU (P:Program) (x:Nat×Nat):Bool:=match P.underlying (x.1/100)with
 | some (.struct fs)=>match fs[x.1% 100]? with
  |some f=>f.offset==x.2&&(match P.info? f.type with
   |some i=>i.size !=0
   |none=>false)
  |none=>false
 |_=>false
theorem Mv:V9.all (PU prog)=true:=by kernel_rfl
def Vq (P:Program) (x:Nat×Nat):Bool:=match P.underlying x.1 with
 |some (.slice e)=>match P.info? e with
  |some i=>i.size==x.2
  |none=>false
 |_=>false
theorem Qc:ZK.all (Vq prog)=true:=by kernel_rfl
def I6 (P:Program) (t:Nat):Bool:=!fC t||(match P.underlying t with
 |some .string=>true
 |_=>false)
theorem JG:(List.range 1000).all (I6 prog)=true:=by kernel_rfl
theorem NK (t:Nat) (h:t<1000):I6 prog t=true:=lj.1 JG t (xK.2 h)
def Qg (P:Program) (x:Nat×Nat):Bool:=match P.underlying x.1,P.info? x.1 with
 |some (.struct _),some i|some (.array _ _),some i=>i.size==x.2
 |_,_=>false
theorem MK:ks.all (Qg prog)=true:=by kernel_rfl
def Pp (P:Program) (x:Nat×Nat):Bool:=match P.underlying x.1 with
 |some (.array n e)=>n==x.2&&decide (1<n)&&(match P.info? e,get SO x.1 with
  |some i,some z=>i.size==z
  |_,_=>false)
 |_=>false
theorem Mk:R9.all (Pp prog)=true:=by kernel_rfl
def qs:Nat:=199791907243414200855478930058352006312749790159085562926518577361169001243261700339927444808198681762310801062810584595306558395914795331327361020
def IQ (P:Program) (f:Nat):Bool:=!bit qs f||(match P.funcs[f]? with
 |some fn=>fn.body.isSome&&fn.name != "runtime.NumGoroutine"
 |none=>false)
theorem Kg:(List.range 1000).all (IQ prog)=true:=by kernel_rfl
theorem NL (t:Nat) (h:t<1000):IQ prog t=true:=lj.1 Kg t (xK.2 h)
theorem mixed:prog.follows .mixedOrders=true:=by kernel_rfl
end
section
theorem qc {m t n:Nat} (hm:m<2^n) (h:bit m t=true):t<n:=by
 rcases pT t n with fW|a
 ·exact fW
 ·exfalso;have h1:2^n<=2^t:=Ae fV a;have d:m/2^t=0:=Ll fy
  simp_all [bit,Nat.shiftRight,LB]
theorem iF {t:Nat} (h:kindOf t=some k):prog.underlying t=some (.int k):=by
 have fW:t<1000:=by
  unfold kindOf at h;split at h
  ·rename_i a;exact qc (by decide+kernel) a
  ·split at h
   ·rename_i a;exact qc (by decide+kernel) a
   ·split at h
    ·rename_i a;exact qc (by decide+kernel) a
    ·split at h
     ·rename_i a;exact qc (by decide+kernel) a
     ·split at h
      ·rename_i a;exact qc (by decide+kernel) a
      ·cases h
 have:=Jp t fW
 grind [Et]
theorem mX {t:Nat} (h:one t=true):(∃d,prog.underlying t=some d/\(∀fs,d≠ .struct fs)/\∀n e,d≠ .array n e)/\∃i,prog.info? t=some i/\i.size=1:=by
 have fW:t<1000:=qc (by decide+kernel) h;have:=Md t fW;unfold IG at this;rw[h]at this;simp only[CY,Bool.false_or]at this;split at this<;>simp_all
theorem TK {s f off:Nat} (a:f<100) (h:fo s f=some off):∃fs fd i,prog.underlying s=some (.struct fs)/\fs[f]? =some fd/\fd.offset=off/\prog.info? fd.type=some i/\i.size≠0:=by
 have:=lj.1 Mv _ (get_mem h)
 grind [PU]
theorem mL {t:Nat} (h:es t=some z):∃e i,prog.underlying t=some (.slice e)/\prog.info? e=some i/\i.size=z:=by
 have:=lj.1 Qc _ (get_mem h)
 grind [Vq]
theorem hR {t:Nat} (h:fC t=true):prog.underlying t=some .string:=by
 have fW:t<1000:=qc (by decide+kernel) h;have:=NK t fW
 grind [I6,Bool.not_true]
theorem GA {t:Nat} (h:bit Cb t=true):prog.underlying t=some (.pointer (prog.pointee t)):=by
 have fW:t<1000:=qc (by decide+kernel) h;have:=Mi t fW
 grind [Kf,Bool.not_true,Program.pointee]
theorem Fz {f:Nat} (h:bit qs f=true):∃fn,prog.funcs[f]? =some fn/\fn.body.isSome=true/\(fn.name== "runtime.NumGoroutine")=false:=by
 have fW:f<1000:=qc (by decide+kernel) h;have:=NL f fW
 grind [IQ,Bool.not_true]
variable {hs:List Nat} {H:World->Prop} {full:Array Oper} {K:Env->World->Prop} {rest:List Oper} {env:Env} {w:World} {d:Tmp} {dst:Option Tmp} {ty:TypeId} {pos:String} {af:Array Edge}
def qW (env:Env):Op->Option Value
 | .move x=>gh env x
 | .assign x=>gh env x
 | .pick c a b=>match gh env a,gh env b,gh env c with
  |some va,some _,some (.bool true)=>some va
  |some _,some d,some (.bool false)=>some d
  |_,_,_=>none
 | .nilCheck x=>match gh env x with
  |some (.pointer (some a))=>some (.pointer (some a))
  |_=>none
 | .fieldAddr s x f=>match gh env x,fo s f,Nat.blt f 100 with
  |some (.pointer (some ⟨b,o,none⟩)),some off,true=>some (.pointer (some ⟨b,o+off,none⟩))
  |_,_,_=>none
 | .extract x i=>match gh env x with
  |some (.tuple vs)=>match vs[i]? with
   |some v=>some v
   |none=>none
  |_=>none
 | .unOp .not _ x=>match gh env x with
  |some (.bool true)=>some (.bool false)
  |some (.bool false)=>some (.bool true)
  |_=>none
 | .call {callee:= .builtin .len,args:=⟨[x]⟩,argTypes:=⟨[t]⟩}=>match gh env x with
  |some (.slice _ n _)=>match es t with
   |some _=>some (.int .i64 n)
   |none=>none
  |some (.string s)=>match fC t with
   |true=>some (.int .i64 s.size)
   |false=>none
  |_=>none
 | .binOp .eql t x (.const (.pointer none)) _=>match gh env x,bit Cb t with
  |some (.pointer (some _)),true=>some (.bool false)
  |some (.pointer none),true=>some (.bool true)
  |_,_=>none
 | .binOp .neq t x (.const (.pointer none)) _=>match gh env x,bit Cb t with
  |some (.pointer (some _)),true=>some (.bool true)
  |some (.pointer none),true=>some (.bool false)
  |_,_=>none
 |_=>none
theorem fM (h:gh env x=some v):ev env x=v:=by simp[ev,h]
theorem Ci (v:Value):gh env (.const v)=some v:=rfl
theorem GW (v:Value):ev env (.const v)=v:=rfl
theorem IP {o:Oper} (h:qW env o.op=some v):fX env o=true/\cls fD fC o.op= .p/\∀w',(execOp (ev env) o).run prog w'= .ok (.value v) w':=by
 obtain⟨dst,op,ty,pos,af,g⟩:=o;dsimp only at h;unfold qW at h;split at h
 ·rename_i x;exact⟨by simp[fX,Op.operands,h],rfl,by simp_all [execOp,fM]⟩
 ·rename_i x;exact⟨by simp[fX,Op.operands,h],rfl,by simp_all [execOp,fM]⟩
 ·rename_i c a b;split at h
  ·exact y48
  ·exact y48
  ·cases h
 ·rename_i x;split at h
  ·rename_i a d;injection h with h;subst h
   exact⟨by grind [fX,Op.operands],rfl,by simp_all [execOp,fM]⟩
  ·cases h
 ·rename_i s x f;split at h
  ·rename_i b o off d y fW;injection h with h;subst h
   obtain⟨fs,fd,i,h1,D,E,F,G⟩:=TK (by simpa using fW) y;refine⟨by grind [fX,Op.operands],rfl,λw'=>?_⟩
   simp_all [Addr.add,nf,execOp,Instr.fieldAt,Instr.sureAddr,fieldPlace,sizeOf,typeInfo,fM,run_underlying]
  ·cases h
 ·rename_i x i;split at h
  ·rename_i vs d;split at h
   ·rename_i I H;injection h with h;subst h
    exact⟨by grind [fX,Op.operands],rfl,by simp_all [execOp,Instr.extract,fM]⟩
   ·cases h
  ·cases h
 ·rename_i t x;split at h
  ·rename_i d;injection h with h;subst h
   exact⟨by grind [fX,Op.operands],rfl,by simp_all [execOp,Op.unary,fM]⟩
  ·rename_i d;injection h with h;subst h
   exact⟨by grind [fX,Op.operands],rfl,by simp_all [execOp,Op.unary,fM]⟩
  ·cases h
 ·rename_i x t;split at h
  ·rename_i A n c d;split at h
   ·rename_i z u;injection h with h;subst h
    obtain⟨e,i,h1,_,_⟩:=mL u;exact⟨by grind [fX,Op.operands,Call.operands],rfl,λw'=>by simp[execOp,resolve,invoke,builtin,fM d,Builtin.len_,run_underlying h1,goInt]⟩
   ·cases h
  ·rename_i s d;split at h
   ·rename_i u;injection h with h;subst h
    exact⟨by grind [fX,Op.operands,Call.operands],rfl,λw'=>by simp[execOp,resolve,invoke,builtin,fM d,Builtin.len_,run_underlying (hR u),goInt]⟩
   ·cases h
  ·cases h
 ·rename_i t x C;split at h
  ·rename_i a d m;injection h with h;subst h
   exact y43
  ·rename_i d m;injection h with h;subst h
   exact y43
  ·cases h
 ·rename_i t x C;split at h
  ·rename_i a d m;injection h with h;subst h
   exact y44
  ·rename_i d m;injection h with h;subst h
   exact y44
  ·cases h
 ·cases h
theorem gR {o:Oper} (a:o.guard=none) (d:fX env o=true) (h:vN prog H (iT fD fC hs o) (execOp (ev env) o) w (λv w'=>xs prog fD fC hs H full K rest (put env o.dst v) w')):
  xs prog fD fC hs H full K (o::rest) env w:=⟨true,by rw[a];rfl,λ_=>⟨d,h⟩,λe=>by cases e⟩
theorem lC (h:K env w):xs prog fD fC hs H full K [] env w:=h
theorem xp {op:Op} (m:qW env op=some v) (h:xs prog fD fC hs H full K rest ((d,v)::env) w):xs prog fD fC hs H full K (⟨some d,op,ty,pos,af,none⟩::rest) env w:=by
 obtain⟨h1,a,g⟩:=IP (o:=⟨some d,op,ty,pos,af,none⟩) m;refine gR fx h1 ?_;have f:iT fD fC hs ⟨some d,op,ty,pos,af,none⟩= .p:=by unfold iT;rw[a]
 rw[f];exact⟨v,g,h⟩
theorem xgy {op:Op} {g:Nat×Bool} (d:gv full env (some g)=some true) (h:xs prog fD fC hs H full K (⟨dst,op,ty,pos,af,none⟩::rest) env w):xs prog fD fC hs H full K (⟨dst,op,ty,pos,af,some g⟩::rest) env w:=by
 obtain⟨f,a,h1,_⟩:=h;injection a with a
 subst a;exact⟨true,d,λ_=>h1 fx,λe=>by cases e⟩
theorem xgn {op:Op} {g:Nat×Bool} (a:gv full env (some g)=some false) (h:xs prog fD fC hs H full K rest (put env dst undef) w):xs prog fD fC hs H full K (⟨dst,op,ty,pos,af,some g⟩::rest) env w:=
 ⟨false,a,λe=>(by cases e),λ_=>h⟩
theorem tL {fn:Func} {a:Value->World->Prop} {k:List It} {id:Nat} (d:qB fn.ntmps l.toArray=true) (h:xs prog fD fC [] gL l.toArray (T prog fn a k) l env w):T prog fn a (.code (.region id l.toArray false)::k) env w:=
 ZG fD fC d h
theorem ox {fn:Func} {a:Value->World->Prop} {k:List It} {id:Nat} (d:qB fn.ntmps l.toArray=true) (hq:Au fD fC [] l.toArray (Region.before l.toArray)=true) (h:xs prog fD fC [] gL l.toArray (T prog fn a k) l env w.drew):
  T prog fn a (.code (.region id l.toArray true)::k) env w:=Ql fD fC [] gL mixed d hq trivial h
theorem kZ {fn:Func} {a:Value->World->Prop} {k:List It} {id:Nat} (hs:List Nat) (H:World->Prop) (d:qB fn.ntmps l.toArray=true) (hq:Au fD fC hs l.toArray (Region.before l.toArray)=true) (hw:H w.drew)
  (h:xs prog fD fC hs H l.toArray (T prog fn a k) l env w.drew):
  T prog fn a (.code (.region id l.toArray true)::k) env w:=Ql fD fC hs H mixed d hq hw h
theorem jA {op:BinOp} {t g:TypeId} {a:Value} (s:gh env x=some a) (u:gh env y=some f) (m:eqGuard op t x y a f=pure ()) (n:∀w',(binOp op t a f).run prog w'= .ok v w')
  (h:xs prog fD fC hs H full K rest ((d,v)::env) w):xs prog fD fC hs H full K (⟨some d,.binOp op t x y g,ty,pos,af,none⟩::rest) env w:=by
 refine gR fx (by grind [fX,Op.operands]) ⟨v,λw'=>?_,h⟩
 simp_all [execOp,fM]
def arI (op:BinOp) (a b:Int):Option Int:=match op with
 | .add=>some (a+b)
 | .sub=>some (a-b)
 | .mul=>some (a*b)
 |_=>none
theorem YI {op:BinOp} {t:TypeId} (g:gh env x=some (.int .i64 a)) (m:gh env y=some (.int .i64 b)) (f:arI op a b=some r) (h1: -9223372036854775808<=r) (s:r<=9223372036854775807)
  (h:xs prog fD fC hs H full K rest ((d,.int .i64 r)::env) w):xs prog fD fC hs H full K (⟨some d,.binOp op t x y n,ty,pos,af,none⟩::rest) env w:=by
 have hw:IntKind.i64.wrap r=r:=Cx _ fy;refine jA g m (eqGuard_at_int ..) (λw'=>?_) h;unfold arI at f;split at f<;>first|simp_all [binOp,Op.intArith]|cases f
theorem u64_in (r:Int) (h1:0<=r) (a:r<=18446744073709551615):IntKind.u64.wrap r=r:=by
 grind [IntKind.wrap,IntKind.signed,IntKind.bits]
theorem Ys {op:BinOp} {t:TypeId} (m:gh env x=some (.int .u64 a)) (n:gh env y=some (.int .u64 b)) (f:arI op a b=some r) (h1:0<=r) (g:r<=18446744073709551615)
  (h:xs prog fD fC hs H full K rest ((d,.int .u64 r)::env) w):xs prog fD fC hs H full K (⟨some d,.binOp op t x y s,ty,pos,af,none⟩::rest) env w:=by
 have hw:IntKind.u64.wrap r=r:=u64_in r h1 g;refine jA m n (eqGuard_at_int ..) (λw'=>?_) h;unfold arI at f;split at f<;>first|simp_all [binOp,Op.intArith]|cases f
def Xw (op:BinOp) (a b:Int):Option Int:=match op with
 | .quo=>some (a/b)
 | .rem=>some (a% b)
 |_=>none
theorem YV {op:BinOp} {t:TypeId} (g:gh env x=some (.int k a)) (m:gh env y=some (.int k b)) (f:Xw op a b=some r) (h1:0<=a) (C:0<b) (hk:k.wrap a=a)
  (h:xs prog fD fC hs H full K rest ((d,.int k r)::env) w):xs prog fD fC hs H full K (⟨some d,.binOp op t x y n,ty,pos,af,none⟩::rest) env w:=by
 refine jA g m (eqGuard_at_int ..) (λw'=>?_) h;have e0:b≠0:=fy;have s:a.tdiv b=a/b:=fS;have u:a.tmod b=a% b:=fS;have v:0<=a/b:=Int.ediv_nonneg h1 fy;have e4:a/b<=a:=Int.ediv_le_self _ h1
 have B:k.wrap (a/b)=a/b:=by
  cases k<;>simp[IntKind.wrap,IntKind.signed,IntKind.bits]at hk⊢<;>omega
 unfold Xw at f;split at f<;>first|simp_all [binOp,Op.intDiv]|cases f
theorem xdi {op:BinOp} {t:TypeId} (m:gh env x=some (.int .i64 a)) (n:gh env y=some (.int .i64 b)) (g:Xw op a b=some r) (h1:0<=a) (f:0<b) (u:a<=9223372036854775807)
  (h:xs prog fD fC hs H full K rest ((d,.int .i64 r)::env) w):xs prog fD fC hs H full K (⟨some d,.binOp op t x y s,ty,pos,af,none⟩::rest) env w:=
 YV m n g h1 f (Cx _ fy) h
theorem Om {op:BinOp} {t u:TypeId} (n:gh env x=some (.int .u64 a)) (s:gh env y=some (.int .u64 b)) (m:Xw op a b=some r) (h1:0<=a) (f:0<b) (g:a<=18446744073709551615)
  (h:xs prog fD fC hs H full K rest ((d,.int .u64 r)::env) w):xs prog fD fC hs H full K (⟨some d,.binOp op t x y u,ty,pos,af,none⟩::rest) env w:=
 YV n s m h1 f (u64_in _ h1 g) h
def N4 (op:BinOp) (a b:Int):Option Prop:=match op with
 | .eql=>some (a=b)
 | .neq=>some (a≠b)
 | .lss=>some (a<b)
 | .leq=>some (a<=b)
 | .gtr=>some (b<a)
 | .geq=>some (b<=a)
 |_=>none
theorem R1 {op:BinOp} {t:TypeId} (g:gh env x=some (.int k a)) (m:gh env y=some (.int k b)) (f:N4 op a b=some p) (s:p)
  (h:xs prog fD fC hs H full K rest ((d,.bool true)::env) w):xs prog fD fC hs H full K (⟨some d,.binOp op t x y n,ty,pos,af,none⟩::rest) env w:=by
 refine jA g m (eqGuard_at_int ..) (λw'=>?_) h;unfold N4 at f;split at f<;>first|simp_all [binOp,Op.intCmp]|grind|cases f
theorem R5 {op:BinOp} {t:TypeId} (g:gh env x=some (.int k a)) (m:gh env y=some (.int k b)) (f:N4 op a b=some p) (s:¬p)
  (h:xs prog fD fC hs H full K rest ((d,.bool false)::env) w):xs prog fD fC hs H full K (⟨some d,.binOp op t x y n,ty,pos,af,none⟩::rest) env w:=by
 refine jA g m (eqGuard_at_int ..) (λw'=>?_) h;unfold N4 at f;split at f<;>first|simp_all [binOp,Op.intCmp]|cases f
theorem TD {op:BinOp} {t u:TypeId} (m:gh env x=some (.int k a)) (n:gh env y=some (.int k b)) (g:N4 op a b=some p)
  (ht:p->xs prog fD fC hs H full K rest ((d,.bool true)::env) w) (s:¬p->xs prog fD fC hs H full K rest ((d,.bool false)::env) w):xs prog fD fC hs H full K (⟨some d,.binOp op t x y u,ty,pos,af,none⟩::rest) env w:=by
 by_cases f:p
 ·exact R1 m n g f (ht f)
 ·exact R5 m n g f (s f)
theorem xcv {t:TypeId} {k0:IntKind} (g:gh env x=some (.int k0 a)) (f:kindOf s=some k0) (ht:kindOf t=some k) (hk:k.wrap a=r)
  (h:xs prog fD fC hs H full K rest ((d,.int k r)::env) w):xs prog fD fC hs H full K (⟨some d,.convert s t x,ty,pos,af,none⟩::rest) env w:=by
 exact y16
theorem Bh {t:TypeId} {k0:IntKind} (g:gh env x=some (.int k0 a)) (f:kindOf s=some k0) (ht:kindOf t=some .i64) (h1: -9223372036854775808<=a) (m:a<=9223372036854775807)
  (h:xs prog fD fC hs H full K rest ((d,.int .i64 a)::env) w):xs prog fD fC hs H full K (⟨some d,.convert s t x,ty,pos,af,none⟩::rest) env w:=xcv g f ht (Cx _ fy) h
theorem xG {t:TypeId} {k0:IntKind} (m:gh env x=some (.int k0 a)) (g:kindOf s=some k0) (ht:kindOf t=some .u64) (h1:0<=a) (f:a<=18446744073709551615)
  (h:xs prog fD fC hs H full K rest ((d,.int .u64 a)::env) w):xs prog fD fC hs H full K (⟨some d,.convert s t x,ty,pos,af,none⟩::rest) env w:=xcv m g ht (u64_in _ h1 f) h
theorem xix {t:TypeId} {b n:Nat} {j:Int} (m:gh env x=some (.slice (some ⟨b,o,none⟩) n c)) (hi:gh env i=some (.int k j)) (s:es t=some z) (h0:0<=j) (h1:j<n)
  (h:xs prog fD fC hs H full K rest ((d,.pointer (some ⟨b,o+j.toNat*z,none⟩))::env) w):xs prog fD fC hs H full K (⟨some d,.indexAddr t x i,ty,pos,af,none⟩::rest) env w:=by
 obtain⟨e,u,a,f,g⟩:=mL s;refine gR fx (by grind [fX,Op.operands]) ⟨_,λw'=>?_,h⟩;simp[execOp,fM m,fM hi,Instr.indexAt,asIntOf,run_underlying a,h0,h1,sizeOf,typeInfo,f,g,nf]
theorem AU {t:TypeId} {p:Addr} (n:gh env x=some (.pointer (some p))) (ht:one t=true) (hc:w.cell? p=some v)
  (h:xs prog fD fC hs H full K rest ((d,v)::env) w) (hm:nK hs (some d)=false:=by rfl):xs prog fD fC hs H full K (⟨some d,.load t x,ty,pos,af,none⟩::rest) env w:=by
 obtain⟨⟨s,h1,a,f⟩,_⟩:=mX ht;refine gR fx (by grind [fX,Op.operands]) ?_;have m:iT fD fC hs ⟨some d,.load t x,ty,pos,af,none⟩= .r:=by simp[iT,cls,hm]
 rw[m];refine⟨v,?_,h⟩
 have g:(isAgg t).run prog w= .ok false w:=by
  unfold isAgg;simp only[sD,run_underlying h1,sM];cases s<;>first|exact absurd rfl (a _)|exact absurd rfl (f _ _)|simp
 simp[execOp,fM n,Instr.loadAt,Instr.sureAddr,loadVar,g,load,Sem.run,hc]
theorem rO {t:TypeId} {p:Addr} (s:gh env x=some (.pointer (some p))) (ht:one t=true) (hc:∀w',H w'->w'.cell? p=some v)
  (h:xs prog fD fC hs H full K rest ((d,v)::env) w) (hm:nK hs (some d)=true:=by rfl):xs prog fD fC hs H full K (⟨some d,.load t x,ty,pos,af,none⟩::rest) env w:=by
 obtain⟨⟨u,h1,a,f⟩,_⟩:=mX ht;refine gR fx (by grind [fX,Op.operands]) ?_;have m:iT fD fC hs ⟨some d,.load t x,ty,pos,af,none⟩= .h:=by simp[iT,cls,hm]
 rw[m];refine⟨v,λw' n=>?_,h⟩
 have g:(isAgg t).run prog w'= .ok false w':=by
  unfold isAgg;simp only[sD,run_underlying h1,sM];cases u<;>first|exact absurd rfl (a _)|exact absurd rfl (f _ _)|simp
 simp[execOp,fM s,Instr.loadAt,Instr.sureAddr,loadVar,g,load,Sem.run,hc w' n]
theorem xst {t:TypeId} {p:Addr} {u:Value} (n:gh env x=some (.pointer (some p))) (s:gh env y=some v) (ht:one t=true) (a:v.oneCell'=true) (hc:w.cell? p=some u) (g:w.frozen? p=false)
  (h:xs prog fD fC hs H full K rest env (w.setCell p v)) (hH:H (w.setCell p v):=by trivial):xs prog fD fC hs H full K (⟨none,.store t x y,ty,pos,af,none⟩::rest) env w:=by
 obtain⟨_,i,h1,d⟩:=mX ht;refine gR fx (by grind [fX,Op.operands]) ?_;have f:v.cells= #[v]:=by cases v<;>first|rfl|cases a
 have m:(storeVar t p v).run prog w= .ok () (w.setCell p v):=by
  simp[storeVar,f,sizeOf,typeInfo,h1,d,storeCells,Addr.add_zero',run_store _ _ _ _ _ a,hc,g]
 show out prog ((execOp (ev env) ⟨none,.store t x y,ty,pos,af,none⟩).run prog w) _
 have e:(execOp (ev env) ⟨none,.store t x y,ty,pos,af,none⟩).run prog w= .ok .skip (w.setCell p v):=by
  simp[execOp,fM n,fM s,Instr.storeAt,Instr.sureAddr,m]
 rw[e];exact⟨hH,h⟩
def Ol (env:Env):List Operand->Option (List Value)
 |[]=>some []
 |x::r=>match gh env x,Ol env r with
  |some v,some vs=>some (v::vs)
  |_,_=>none
theorem n4:∀{l:List Operand} {vs:List Value},Ol env l=some vs->l.map (ev env)=vs/\∀x∈l,(gh env x).isSome=true
 |[],vs,h=>by injection h with h;grind
 | x::r,vs,h=>by
  simp only[Ol]at h;split at h
  ·rename_i v g f a;injection h with h;subst h
   obtain⟨h1,d⟩:=n4 a
   grind [fM]
  ·cases h
theorem fI {f:FuncId} {a:Array TypeId} {S:Value->World->Prop} (m:Ol env args=some vs) (t:bit qs f=true) (s:fL prog f vs.toArray w S)
  (h:∀v w',S v w'->xs prog fD fC hs H full K rest (put env dst v) w') (hH:∀v w',S v w'->H w':=by intros;trivial):xs prog fD fC hs H full K (⟨dst,.call {callee:= .value (.func f),args:=args.toArray,argTypes:=a},ty,pos,af,none⟩::rest) env w:=by
 obtain⟨h1,B⟩:=n4 m;obtain⟨fn,u,d,x⟩:=Fz t;refine gR fx (by grind [fX,Op.operands,Call.operands,gh]) ?_;show out prog ((execOp (ev env) ⟨dst,.call {callee:= .value (.func f),args:=args.toArray,argTypes:=a},ty,pos,af,none⟩).run prog w) _
 have e:(execOp (ev env) ⟨dst,.call {callee:= .value (.func f),args:=args.toArray,argTypes:=a},ty,pos,af,none⟩).run prog w= .ok (.enter f vs.toArray) w:=by
  have n:¬fn.body=none:=by intro e;rw[e]at d;cases d
  have y:¬fn.name= "runtime.NumGoroutine" :=by simpa using x
  have g:ev env (.func f)= .func (.func f) #[] #[]:=rfl;simp[execOp,resolve,g,Deferred.ofValue,invoke,callFunc,h1,u,y,n]
 rw[e];exact pP s λe w' ⟨v,he,k⟩=>fS
end
section
def pe (fD fC:TypeId->Bool) (hs:List Nat) (cut:Nat) (full:Array Oper) (A:Array Nat):Bool:=
 Region.noSelect full&&decide (cut<=full.size)&&(List.range full.size).all λi=>
  match full[i]? with
  |none=>false
  | some o=>
   (o.after.all λe=>!Region.binds .any e||decide (e.on<i))&&
   (List.range i).all λj=>
    if(A.getD i 0).testBit j then o.after.any λe=>Region.binds .any e&&(e.on==j||(decide (j<e.on)&&(A.getD e.on 0).testBit j))
    else if i<cut then free fD fC hs full j i else decide (cut<=j)&&free fD fC [] full j i
structure Jk (fD fC:TypeId->Bool) (hs:List Nat) (cut:Nat) (full:Array Oper) (A:Array Nat):Prop where
 Vi:Region.noSelect full=true
 le:cut<=full.size
 down:∀i o,full[i]? =some o->∀e∈o.after,Region.binds .any e=true->e.on<i
 VO:∀i o,full[i]? =some o->∀j,j<i->(A.getD i 0).testBit j=true->∃e∈o.after,Region.binds .any e=true/\(e.on=j∨(j<e.on/\(A.getD e.on 0).testBit j=true))
 fre:∀i o,full[i]? =some o->∀j,j<i->(A.getD i 0).testBit j=false->i<cut->free fD fC hs full j i=true
 Zq:∀i o,full[i]? =some o->∀j,j<i->(A.getD i 0).testBit j=false->cut<=i->cut<=j/\free fD fC [] full j i=true
section
variable {P:Program} {fD fC:TypeId->Bool} {hs:List Nat} {H:World->Prop} {cut:Nat}
theorem xm {A:Array Nat} (h:pe fD fC hs cut full A=true):Jk fD fC hs cut full A:=by
 unfold pe at h;rw[iO,iO]at h
 have g:∀i o,full[i]? =some o->(o.after.all λe=>!Region.binds .any e||decide (e.on<i))=true/\
   ∀j,j<i->(if(A.getD i 0).testBit j then o.after.any λe=>Region.binds .any e&&(e.on==j||(decide (j<e.on)&&(A.getD e.on 0).testBit j))
    else if i<cut then free fD fC hs full j i else decide (cut<=j)&&free fD fC [] full j i)=true:=λi o a=>by
  have fW:i<full.size:=(JZ.1 a).1;have hi:=lj.1 h.2 i (xK.2 fW);rw[a]at hi;simp only[iO]at hi;exact⟨hi.1,λj d=>lj.1 hi.2 j (xK.2 d)⟩
 refine⟨h.1.1,by simpa using h.1.2,λi o a e he n=>?_,λi o a j d f=>?_,λi o a j d f hc=>?_,λi o a j d f hc=>?_⟩
 ·have:=MZ.1 (g i o a).1 e he;simpa[n]using this
 ·have:=(g i o a).2 j d;rw[if_pos f]at this;obtain⟨e,he,m⟩:=Rg.1 this;simp only[iO,tK,beq_iff_eq,decide_eq_true_eq]at m;exact⟨e,he,m.1,m.2⟩
 ·have:=(g i o a).2 j d;rw[if_neg (by rw[f];decide),if_pos hc]at this;exact this
 ·have:=(g i o a).2 j d;rw[if_neg (by rw[f];decide),if_neg fy,iO]at this;exact⟨by simpa using this.1,this.2⟩
theorem Hr {A:Array Nat} (hq:Jk fD fC hs cut full A) (x:listed.size=full.size)
  (down:∀i o,full[i]? =some o->listed.getD i false=true->∀e∈o.after,Region.binds .any e=true->listed.getD e.on false=true) {j:Nat}:
  ∀(m k:Nat),k<m->listed.getD k false=true->(A.getD k 0).testBit j=true->j<k->listed.getD j false=true:=by
 intro m
 induction m with
 |zero=>intro k hk;omega
 | succ m w=>
  intro k hk d s t
  have u:k<full.size:=by
   rcases pT k full.size with a|a
   ·exact a
   ·rw[pf,Ds fy]at d;cases d
  obtain⟨ok,f⟩:∃ok,full[k]? =some ok:=⟨_,wi u⟩;obtain⟨e,he,g,v⟩:=hq.VO k ok f j t s;have hle:=down k ok f d e he g;rcases v with a|⟨fW,n⟩
  ·rw[←a];exact hle
  ·exact w e.on (by have:=hq.down k ok f e he g;omega) hle n fW
def ss2 (P:Program) (fD fC:TypeId->Bool) (hs:List Nat) (H:World->Prop) (full:Array Oper) (K:Act->World->Prop) (l1 l2:List Nat) (a:Act) (w:World):Prop:=
 ss P fD fC hs H full (λa w=>ss P fD fC [] gL full K l2 a w) l1 a w
theorem rU {i:Nat} (d:listed.size=full.size) (hi:i∈Region.ready .any full listed):i<full.size/\listed.getD i false=false:=by
 obtain⟨h0,o,a,_⟩:=mem_ready.1 hi;have fW:i<full.size:=(JZ.1 a).1;refine⟨fW,?_⟩;rw[pf,wi fy]at h0⊢;simpa using h0
theorem vu {A:Array Nat} (hq:Jk fD fC hs cut full A) {K:Act->World->Prop} {Q:Exit->Act->World->Prop} (W:∀a w,K a w->Q .normal a w):
  ∀(fuel:Nat) (listed:Array Bool) (l1 l2:List Nat) (a:Act) (w:World),(l1≠[]->H w)->listed.size=full.size->(l1++l2).length<=fuel->(l1++l2).Pairwise (· <·)->(∀i∈l1,i<cut)->(∀i∈l2,cut<=i)->(∀i,i∈l1++l2↔i<full.size/\listed.getD i false=false)->
   (∀i o,full[i]? =some o->listed.getD i false=true->∀e∈o.after,Region.binds .any e=true->listed.getD e.on false=true)->
   ss2 P fD fC hs H full K l1 l2 a w->wpAny P .any full Q fuel listed a w:=by
 intro fuel
 have start:∀(listed:Array Bool) (l:List Nat),listed.size=full.size->l.Pairwise (· <·)->(∀i,i∈l↔i<full.size/\listed.getD i false=false)->
   Region.ready .any full listed=[]->l=[]:=by
  intro listed l B m s F;cases l with
  |nil=>rfl
  | cons i r=>
   exfalso;have hi:=(s i).1 ir;obtain⟨o,n⟩:∃o,full[i]? =some o:=⟨_,wi hi.1⟩
   have:i∈Region.ready .any full listed:=by
    rw[mem_ready];refine⟨?_,o,n,λe he C=>?_⟩
    ·have V:=hi.2;rw[pf,wi fy]at V⊢;simpa using V
    ·have fW:=hq.down i o n e he C;cases hle:listed.getD e.on false with
     |true=>rfl
     |false=>
      have:=(s e.on).2 ⟨fy,hle⟩;rcases hX.1 this with d|d
      ·omega
      ·have:=Vg m d;omega
   rw[F]at this;cases this
 induction fuel with
 | zero=>
  intro listed l1 l2 a w hw B hlen m G I s N h;have R:l1++l2=[]:=zf fy;obtain⟨rfl,rfl⟩:=Vl.1 R;refine⟨?_,W _ _ h⟩;cases F:Region.ready .any full listed with
  |nil=>rfl
  |cons i r=>
   exfalso;have hi:i∈Region.ready .any full listed:=by rw[F];simp
   have:=(s i).2 (rU B hi);cases this
 | succ fuel ad=>
  intro listed l1 l2 a w hw B hlen m G I s N h;refine⟨λF=>?_,λi hi=>?_⟩
  ·obtain⟨rfl,rfl⟩:=Vl.1 (start listed _ B m s F);exact W _ _ h
  obtain⟨fW,al⟩:=rU B hi;obtain⟨_,o,n,X⟩:=mem_ready.1 hi
  have T:∀j,j<i->listed.getD j false=false->(A.getD i 0).testBit j=false:=λj f ai=>by
   cases ag:(A.getD i 0).testBit j with
   |false=>rfl
   | true=>
    exfalso;obtain⟨e,he,C,ak⟩:=hq.VO i o n j f ag;have hle:=X e he C
    have:listed.getD j false=true:=by
     rcases ak with d|⟨aj,ah⟩
     ·rw[←d];exact hle
     ·exact Hr hq B N (e.on+1) e.on fy hle ah aj
    rw[ai]at this;cases this
  have U:∀j,j∈l1++l2->listed.getD j false=false:=λj g=>((s j).1 g).2
  have Y:∀ab o',full[ab]? =some o'->(listed.setIfInBounds i true).getD ab false=true->∀e∈o'.after,Region.binds .any e=true->(listed.setIfInBounds i true).getD e.on false=true:=by
   intro ae ok D aa e he C;refine getD_set_true ?_
   by_cases Z:ae=i
   ·subst Z;rw[n]at D;injection D with D
    subst D;exact X e he C
   ·rw[getD_set_ne false (uM Z)]at aa;exact N ae ok D aa e he C
  have af:∀(x y:List Nat),l1++l2=x++i::y->∀j,j∈x++y↔j<full.size/\(listed.setIfInBounds i true).getD j false=false:=by
   intro x y L j;rw[L]at m s;have t:=j6.1 m;have E:=jr.1 t.2.1
   by_cases f:j=i
   ·subst f;constructor
    ·intro hm;exfalso;rcases iK.1 hm with d|d
     ·have:=t.2.2 j d j ir;omega
     ·have:=E.1 j d;omega
    ·rintro⟨_,d⟩;rw[pf,OT fy]at d;cases d
   ·rw[getD_set_ne false (uM f),←s j];simp[f]
  rcases iK.1 ((s i).2 ⟨fW,al⟩)with hm|hm
  ·obtain⟨x,y,rfl⟩:=PO hm;have J:i<cut:=G i ir
   have O:∀j∈x,free fD fC hs full j i=true:=λj g=>by
    have f:j<i:=by
     rw[j7]at m;exact(j6.1 m).2.2 j g i ir
    exact hq.fre i o n j f (T j f (U j (by simp[g]))) J
   refine oi (fD:=fD) (fC:=fC) (hs:=hs) (hw ir) (λM w' am k=>?_) n (ub hq.Vi n y x a w O (hw ir) h);have L:(x++i::y)++l2=x++i::(y++l2):=by simp
   refine ad _ (x++y) l2 M w' (λ_=>am) (by simpa using B) (by simp at hlen⊢;omega) ?_ (λj g=>G j (by rcases iK.1 g with d|d<;>simp[d])) I (λj=>by have:=af x (y++l2) L j;simpa using this) Y k;rw[L]at m;have t:=j6.1 m;have E:=jr.1 t.2.1;rw[j7];exact j6.2 ⟨t.1,E.2,λu hu v S=>t.2.2 u hu v (by simp[S])⟩
  ·have J:cut<=i:=I i hm
   have R:l1=[]:=by
    cases l1 with
    |nil=>rfl
    |cons j r=>
     exfalso;have an:=G j ir;have f:j<i:=fy;have:=hq.Zq i o n j f (T j f (U j ir)) J;omega
   subst R;obtain⟨x,y,rfl⟩:=PO hm;rw[vD]at m
   have O:∀j∈x,free fD fC [] full j i=true:=λj g=>by
    have f:j<i:=(j6.1 m).2.2 j g i ir;exact(hq.Zq i o n j f (T j f (U j (by simp[g]))) J).2
   refine oi (fD:=fD) (fC:=fC) (hs:=[]) (H:=gL) trivial (λM w' _ k=>?_) n (ub hq.Vi n y x a w O trivial h);have t:=j6.1 m;have E:=jr.1 t.2.1
   exact ad _ [] (x++y) M w' (λe=>absurd fx e) (by simpa using B) (by simp at hlen⊢;omega) (by simpa using j6.2 ⟨t.1,E.2,λu hu v S=>t.2.2 u hu v (by simp[S])⟩) (λj g=>by cases g)
    (λj g=>I j (by rcases iK.1 g with d|d<;>simp[d])) (λj=>by have:=af x y ir j;simpa using this) Y k
theorem Jf {full:Array Oper} {K:Act->World->Prop}:∀(l:List Nat) (K':Act->World->Prop) (a:Act) (w:World),H w->(∀a w,H w->K a w->K' a w)->ss P fD fC hs H full K l a w->ss P fD fC hs H full K' l a w
 |[],K',a,w,hw,hk,h=>hk _ _ hw h
 |i::l,K',a,w,hw,hk,h=>by
  simp only[ss]at h⊢;split at h
  ·exact h.elim
  ·exact x4 hw (λa w d k=>Jf l K' a w d hk k) h
theorem nV {N:Nat} {full:Array Oper} {K:Env->World->Prop} (m:Region.noSelect full=true) (f:∀(i:Nat) (o:Oper),full[i]? =some o->∀t,o.dst=some t->t<N):
  ∀(l:List Oper) (k:Nat) (env:Env) (a:Act) (w:World),(∀j o,l[j]? =some o->full[k+j]? =some o)->H w->Fits N env a->xs P fD fC hs H full K l env w->
   ss P fD fC hs H full (λx w'=>∃n,Fits N n x/\K n w') (List.range' k l.length) a w
 |[],k,env,a,w,_,_,d,h=>⟨env,d,h⟩
 | o::l,k,env,a,w,s,hw,d,h=>by
  have h0:full[k]? =some o:=by simpa using(s 0 o ir)
  have u:∀j o',l[j]? =some o'->full[k+1+j]? =some o':=λj o' E=>by have:=s (j+1) o' (by simpa using E);simpa[Hj,O7 1 j]using this
  obtain⟨g,C,ht,B⟩:=h;simp only[iA,Kx,ss,h0];unfold s1;rw[vM d C];cases g with
  |true=>
   obtain⟨D,y⟩:=ht rfl;rw[if_pos rfl,←DI d (λcs b=>AS m k o cs b h0) D];exact kd hw (λv w' F G=>nV m f l (k+1) _ _ w' u F (d.put o.dst (f k o h0) v) G) y
  |false=>
   rw[if_neg fV];exact nV m f l (k+1) _ _ w u hw (d.put o.dst (f k o h0) undef) (B fx)
end
theorem wC {fn:Func} {u:Value->World->Prop} {k:List It} {id:Nat} {env:Env} (cut:Nat) (hs:List Nat) (H:World->Prop) (t:qB fn.ntmps l.toArray=true) (hq:pe fD fC hs cut l.toArray (Region.before l.toArray)=true) (hw:H w.drew)
  (h:xs prog fD fC hs H l.toArray (λd w'=>xs prog fD fC [] gL l.toArray (T prog fn u k) (l.drop cut) d w') (l.take cut) env w.drew):
  T prog fn u (.code (.region id l.toArray true)::k) env w:=λa D=>by
 obtain⟨B,t⟩:=mC t;have y:=xm hq;have hle:cut<=l.length:=by simpa using y.le
 have h1:=nV (N:=fn.ntmps) B t (l.take cut) 0 env a w.drew (λj o f=>by
  rw[iC]
  have F:j<cut:=by
   have:=(j0.1 f).1;rw[kt]at this;omega
  rw[FN F]at f
  simpa using f) hw D h
 rw[kt,uk hle]at h1
 have C:ss2 prog fD fC hs H l.toArray (λg w'=>∃d,Fits fn.ntmps d g/\T prog fn u k d w') (List.range' 0 cut) (List.range' cut (l.length-cut)) a w.drew:=by
  refine Jf _ _ a _ hw (λg w' _ ⟨d,v,G⟩=>?_) h1
  have:=nV (N:=fn.ntmps) B t (l.drop cut) cut d g w' (λj o f=>by
   rw[Ab]at f
   simpa using f) trivial v G
  rwa[lH]at this
 refine wp_region_any mixed (vu y (λg w' ⟨d,v,ht⟩=>ht g v) l.toArray.size _ (List.range' 0 cut) (List.range' cut (l.length-cut)) a _ (λ_=>hw) ir (by simp;omega) ?_ (λi hi=>by rw[CP]at hi;omega) (λi hi=>by rw[CP]at hi;omega) (λi=>?_) (λi o f x=>?_) C)
 ·have e:List.range' 0 cut++List.range' cut (l.length-cut)=List.range l.length:=by
   have:=V8 (s:=0) (m:=cut) (n:=l.length-cut);rw[iC]at this;rw[this,Hh]
   congr 1;omega
  rw[e];exact QA
 ·rw[iK,CP,CP];simp[pf];constructor
  ·intro E;have:i<l.length:=fy;exact⟨this,by simp[this]⟩
  ·intro E;omega
 ·exfalso;rw[pf,Ry]at x;split at x<;>simp at x
def Vu {α β:Type} (l0 l1:Nat) (a:α->Env) (f:α->World->Prop) (m0:α->Nat) (d:β->Env) (g:β->World->Prop) (m1:β->Nat):Nat->Nat->Env->World->Prop:=
 λl n env w=>(l=l0/\∃x,Sub (a x) env/\f x w/\m0 x=n)∨(l=l1/\∃x,Sub (d x) env/\g x w/\m1 x=n)
theorem vG {P:Program} {fn:Func} {m:Value->World->Prop} {k:List It} {env:Env} {α β:Type} {c:Code} {u v:List It} (l0 l1:Nat) (H:l0≠l1) (B:after c l0=some u) (C:after c l1=some v) (a:α->Env) (f:α->World->Prop) (m0:α->Nat) (d:β->Env) (g:β->World->Prop) (m1:β->Nat)
  (F:∀x w,f x w->(∀y w',g y w'->m1 y<m0 x->T P fn m (v++ .vH (Bo (Vu l0 l1 a f m0 d g m1) (m0 x))::k) (d y) w')->T P fn m (u++ .vH (Bo (Vu l0 l1 a f m0 d g m1) (m0 x))::k) (a x) w)
  (G:∀x w,g x w->(∀y w',f y w'->m0 y<m1 x->T P fn m (u++ .vH (Bo (Vu l0 l1 a f m0 d g m1) (m1 x))::k) (a y) w')->T P fn m (v++ .vH (Bo (Vu l0 l1 a f m0 d g m1) (m1 x))::k) (d x) w)
  (first:(∀x w,f x w->T P fn m (u++ .vH (Dn (Vu l0 l1 a f m0 d g m1))::k) (a x) w)->(∀x w,g x w->T P fn m (v++ .vH (Dn (Vu l0 l1 a f m0 d g m1))::k) (d x) w)->T P fn m (.code c:: .vH (Dn (Vu l0 l1 a f m0 d g m1))::k) env w):
  T P fn m (.code (.scope c)::k) env w:=by
 refine JU (Vu l0 l1 a f m0 d g m1) ?_ ?_ ?_
 ·rintro l n env w (⟨rfl,_⟩|⟨rfl,_⟩)
  ·exact⟨u,B⟩
  ·exact⟨v,C⟩
 ·rintro n l I env w s (⟨rfl,x,hs,t,rfl⟩|⟨rfl,x,hs,t,rfl⟩) E
  ·rw[B]at s;injection s with s;subst s
   exact ic (F x w t λy w' D fW=>E l1 v (d y) w' C ⟨m1 y,fW,.inr ⟨rfl,y,λ_ _ h=>h,D,rfl⟩⟩) hs
  ·rw[C]at s;injection s with s;subst s
   exact ic (G x w t λy w' D fW=>E l0 u (a y) w' B ⟨m0 y,fW,.inl ⟨rfl,y,λ_ _ h=>h,D,rfl⟩⟩) hs
 ·intro h;exact first (λx w t=>h l0 u (a x) w B ⟨m0 x,.inl ⟨rfl,x,λ_ _ h=>h,t,rfl⟩⟩) (λx w t=>h l1 v (d x) w C ⟨m1 x,.inr ⟨rfl,x,λ_ _ h=>h,t,rfl⟩⟩)
end
section
def GQ:List Oper->Nat->Option Tmp
 |[],_=>none
 |o::_,0=>o.dst
 |_::r,j+1=>GQ r j
theorem FF:∀(l:List Oper) (j:Nat),GQ l j=(l[j]?).bind (·.dst)
 |[],_=>rfl
 |o::_,0=>rfl
 |_::r,j+1=>by simp only[GQ,C8];exact FF r j
def ZN (l:List Oper) (env:Env) (j:Nat) (want:Bool):Option Bool:=match GQ l j with
 |none=>some false
 |some d=>match look env d with
  |some (.bool true)=>some want
  |some (.bool false)=>some (!want)
  |some _=>some false
  |none=>none
theorem IB {env:Env} {b:Bool} (h:ZN l env j want=some b):gv l.toArray env (some (j,want))=some b:=by
 unfold ZN at h;rw[FF]at h;unfold gv;dsimp only;rw[pB];exact h
theorem vF {hs:List Nat} {H:World->Prop} {K:Env->World->Prop} {rest:List Oper} {env:Env} {dst:Option Tmp} {ty:TypeId} {pos:String} {af:Array Edge} {op:Op} (a:ZN l env j want=some true)
  (h:xs prog fD fC hs H l.toArray K (⟨dst,op,ty,pos,af,none⟩::rest) env w):xs prog fD fC hs H l.toArray K (⟨dst,op,ty,pos,af,some (j,want)⟩::rest) env w:=xgy (IB a) h
theorem vw {hs:List Nat} {H:World->Prop} {K:Env->World->Prop} {rest:List Oper} {env:Env} {d:Tmp} {ty:TypeId} {pos:String} {af:Array Edge} {op:Op} (a:ZN l env j want=some false)
  (h:xs prog fD fC hs H l.toArray K rest ((d,undef)::env) w):xs prog fD fC hs H l.toArray K (⟨some d,op,ty,pos,af,some (j,want)⟩::rest) env w:=xgn (IB a) h
section
variable {hs:List Nat} {H:World->Prop} {full:Array Oper} {K:Env->World->Prop} {rest:List Oper} {env:Env} {w:World} {d:Tmp} {dst:Option Tmp} {ty:TypeId} {pos:String} {af:Array Edge}
theorem Im (a:gh env x=some v) (h:xs prog fD fC hs H full K rest ((d,v)::env) w):xs prog fD fC hs H full K (⟨some d,.move x,ty,pos,af,none⟩::rest) env w:=xp (op:= .move x) a h
theorem Ij (a:gh env x=some v) (h:xs prog fD fC hs H full K rest ((d,v)::env) w):xs prog fD fC hs H full K (⟨some d,.assign x,ty,pos,af,none⟩::rest) env w:=xp (op:= .assign x) a h
def pkV (a b:Value):Value->Option Value
 | .bool true=>some a
 | .bool false=>some b
 |_=>none
theorem H6 {c:Operand} {vc g:Value} (hc:gh env c=some vc) (m:gh env x=some f) (n:gh env y=some g) (a:pkV f g vc=some v) (h:xs prog fD fC hs H full K rest ((d,v)::env) w):
  xs prog fD fC hs H full K (⟨some d,.pick c x y,ty,pos,af,none⟩::rest) env w:=by
 refine xp (op:= .pick c x y) (v:=v) ?_ h;unfold qW;simp only[m,n,hc];unfold pkV at a;split at a
 ·exact a
 ·exact a
 ·cases a
theorem Ja {a:Addr} (f:gh env x=some (.pointer (some a))) (h:xs prog fD fC hs H full K rest ((d,.pointer (some a))::env) w):xs prog fD fC hs H full K (⟨some d,.nilCheck x,ty,pos,af,none⟩::rest) env w:=
 xp (op:= .nilCheck x) (by unfold qW;simp only[f]) h
theorem Is {s f b off:Nat} (m:gh env x=some (.pointer (some ⟨b,o,none⟩))) (g:fo s f=some off) (a:Nat.blt f 100=true) (h:xs prog fD fC hs H full K rest ((d,.pointer (some ⟨b,o+off,none⟩))::env) w):
  xs prog fD fC hs H full K (⟨some d,.fieldAddr s x f,ty,pos,af,none⟩::rest) env w:=xp (op:= .fieldAddr s x f) (by unfold qW;simp only[m,g,a]) h
theorem H8 {i:Nat} {vs:Array Value} (a:gh env x=some (.tuple vs)) (hi:vs[i]? =some v) (h:xs prog fD fC hs H full K rest ((d,v)::env) w):xs prog fD fC hs H full K (⟨some d,.extract x i,ty,pos,af,none⟩::rest) env w:=
 xp (op:= .extract x i) (by unfold qW;simp only[a,hi]) h
theorem sJ {t:TypeId} {b:Bool} (a:gh env x=some (.bool b)) (h:xs prog fD fC hs H full K rest ((d,.bool (!b))::env) w):xs prog fD fC hs H full K (⟨some d,.unOp .not t x,ty,pos,af,none⟩::rest) env w:=
 xp (op:= .unOp .not t x) (by unfold qW;simp only[a];cases b<;>rfl) h
def lnV (t:TypeId):Value->Option Value
 | .slice _ n _=>match es t with
  |some _=>some (.int .i64 n)
  |none=>none
 | .string s=>match fC t with
  |true=>some (.int .i64 s.size)
  |false=>none
 |_=>none
theorem Ic {t:TypeId} (g:gh env x=some f) (a:lnV t f=some v) (h:xs prog fD fC hs H full K rest ((d,v)::env) w):
  xs prog fD fC hs H full K (⟨some d,.call {callee:= .builtin .len,args:=⟨[x]⟩,argTypes:=⟨[t]⟩},ty,pos,af,none⟩::rest) env w:=by
 refine xp (op:= .call {callee:= .builtin .len,args:=⟨[x]⟩,argTypes:=⟨[t]⟩}) (v:=v) ?_ h;unfold qW;simp only[g];unfold lnV at a;split at a
 ·exact a
 ·exact a
 ·cases a
def YY:Value->Option Value
 | .pointer (some _)=>some (.bool false)
 | .pointer none=>some (.bool true)
 |_=>none
theorem uW {t g:TypeId} (n:gh env x=some f) (m:bit Cb t=true) (a:YY f=some v) (h:xs prog fD fC hs H full K rest ((d,v)::env) w):
  xs prog fD fC hs H full K (⟨some d,.binOp .eql t x (.const (.pointer none)) g,ty,pos,af,none⟩::rest) env w:=by
 refine xp (op:= .binOp .eql t x (.const (.pointer none)) g) (v:=v) ?_ h;unfold qW;simp only[n,m];unfold YY at a;split at a
 ·exact a
 ·exact a
 ·cases a
def Y0:Value->Option Value
 | .pointer (some _)=>some (.bool true)
 | .pointer none=>some (.bool false)
 |_=>none
theorem vh {t g:TypeId} (n:gh env x=some f) (m:bit Cb t=true) (a:Y0 f=some v) (h:xs prog fD fC hs H full K rest ((d,v)::env) w):
  xs prog fD fC hs H full K (⟨some d,.binOp .neq t x (.const (.pointer none)) g,ty,pos,af,none⟩::rest) env w:=by
 refine xp (op:= .binOp .neq t x (.const (.pointer none)) g) (v:=v) ?_ h;unfold qW;simp only[n,m];unfold Y0 at a;split at a
 ·exact a
 ·exact a
 ·cases a
theorem u1 {t:TypeId} (g:gh env x=some (.int .i64 a)) (m:gh env y=some (.int .i64 b)) (h1: -9223372036854775808<=a+b) (f:a+b<=9223372036854775807)
  (h:xs prog fD fC hs H full K rest ((d,.int .i64 (a+b))::env) w):xs prog fD fC hs H full K (⟨some d,.binOp .add t x y n,ty,pos,af,none⟩::rest) env w:=YI g m rfl h1 f h
theorem u4 {t:TypeId} (g:gh env x=some (.int .i64 a)) (m:gh env y=some (.int .i64 b)) (h1: -9223372036854775808<=a-b) (f:a-b<=9223372036854775807)
  (h:xs prog fD fC hs H full K rest ((d,.int .i64 (a-b))::env) w):xs prog fD fC hs H full K (⟨some d,.binOp .sub t x y n,ty,pos,af,none⟩::rest) env w:=YI g m rfl h1 f h
theorem uf {t:TypeId} (g:gh env x=some (.int .i64 a)) (m:gh env y=some (.int .i64 b)) (h1: -9223372036854775808<=a*b) (f:a*b<=9223372036854775807)
  (h:xs prog fD fC hs H full K rest ((d,.int .i64 (a*b))::env) w):xs prog fD fC hs H full K (⟨some d,.binOp .mul t x y n,ty,pos,af,none⟩::rest) env w:=YI g m rfl h1 f h
theorem oR {t:TypeId} (g:gh env x=some (.int .u64 a)) (m:gh env y=some (.int .u64 b)) (h1:0<=a+b) (f:a+b<=18446744073709551615)
  (h:xs prog fD fC hs H full K rest ((d,.int .u64 (a+b))::env) w):xs prog fD fC hs H full K (⟨some d,.binOp .add t x y n,ty,pos,af,none⟩::rest) env w:=Ys g m rfl h1 f h
theorem oP {t:TypeId} (g:gh env x=some (.int .u64 a)) (m:gh env y=some (.int .u64 b)) (h1:0<=a-b) (f:a-b<=18446744073709551615)
  (h:xs prog fD fC hs H full K rest ((d,.int .u64 (a-b))::env) w):xs prog fD fC hs H full K (⟨some d,.binOp .sub t x y n,ty,pos,af,none⟩::rest) env w:=Ys g m rfl h1 f h
theorem tq {t:TypeId} (m:gh env x=some (.int .i64 a)) (n:gh env y=some (.int .i64 b)) (h1:0<=a) (f:0<b) (g:a<=9223372036854775807)
  (h:xs prog fD fC hs H full K rest ((d,.int .i64 (a/b))::env) w):xs prog fD fC hs H full K (⟨some d,.binOp .quo t x y s,ty,pos,af,none⟩::rest) env w:=xdi m n rfl h1 f g h
theorem tF {t:TypeId} (m:gh env x=some (.int .i64 a)) (n:gh env y=some (.int .i64 b)) (h1:0<=a) (f:0<b) (g:a<=9223372036854775807)
  (h:xs prog fD fC hs H full K rest ((d,.int .i64 (a% b))::env) w):xs prog fD fC hs H full K (⟨some d,.binOp .rem t x y s,ty,pos,af,none⟩::rest) env w:=xdi m n rfl h1 f g h
theorem mi {t:TypeId} (g:gh env x=some (.int k a)) (m:gh env y=some (.int k b)) (f:a=b) (h:xs prog fD fC hs H full K rest ((d,.bool true)::env) w):xs prog fD fC hs H full K (⟨some d,.binOp .eql t x y n,ty,pos,af,none⟩::rest) env w:=R1 g m rfl f h
theorem lZ {t:TypeId} (f:gh env x=some (.int k a)) (g:gh env y=some (.int k b)) (n:a≠b) (h:xs prog fD fC hs H full K rest ((d,.bool false)::env) w):xs prog fD fC hs H full K (⟨some d,.binOp .eql t x y m,ty,pos,af,none⟩::rest) env w:=R5 f g rfl fy h
theorem kW {t:TypeId} (g:gh env x=some (.int k a)) (m:gh env y=some (.int k b)) (ht:a=b->xs prog fD fC hs H full K rest ((d,.bool true)::env) w) (f:a≠b->xs prog fD fC hs H full K rest ((d,.bool false)::env) w):xs prog fD fC hs H full K (⟨some d,.binOp .eql t x y n,ty,pos,af,none⟩::rest) env w:=TD g m rfl ht (λs=>f fy)
theorem l5 {t:TypeId} (g:gh env x=some (.int k a)) (m:gh env y=some (.int k b)) (f:a≠b) (h:xs prog fD fC hs H full K rest ((d,.bool true)::env) w):xs prog fD fC hs H full K (⟨some d,.binOp .neq t x y n,ty,pos,af,none⟩::rest) env w:=R1 g m rfl f h
theorem mh {t:TypeId} (f:gh env x=some (.int k a)) (g:gh env y=some (.int k b)) (n:a=b) (h:xs prog fD fC hs H full K rest ((d,.bool false)::env) w):xs prog fD fC hs H full K (⟨some d,.binOp .neq t x y m,ty,pos,af,none⟩::rest) env w:=R5 f g rfl fy h
theorem kX {t:TypeId} (g:gh env x=some (.int k a)) (m:gh env y=some (.int k b)) (ht:a≠b->xs prog fD fC hs H full K rest ((d,.bool true)::env) w) (f:a=b->xs prog fD fC hs H full K rest ((d,.bool false)::env) w):xs prog fD fC hs H full K (⟨some d,.binOp .neq t x y n,ty,pos,af,none⟩::rest) env w:=TD g m rfl ht (λs=>f fy)
theorem ml {t:TypeId} (g:gh env x=some (.int k a)) (m:gh env y=some (.int k b)) (f:a<b) (h:xs prog fD fC hs H full K rest ((d,.bool true)::env) w):xs prog fD fC hs H full K (⟨some d,.binOp .lss t x y n,ty,pos,af,none⟩::rest) env w:=R1 g m rfl f h
theorem ma {t:TypeId} (f:gh env x=some (.int k a)) (g:gh env y=some (.int k b)) (n:b<=a) (h:xs prog fD fC hs H full K rest ((d,.bool false)::env) w):xs prog fD fC hs H full K (⟨some d,.binOp .lss t x y m,ty,pos,af,none⟩::rest) env w:=R5 f g rfl fy h
theorem kR {t:TypeId} (g:gh env x=some (.int k a)) (m:gh env y=some (.int k b)) (ht:a<b->xs prog fD fC hs H full K rest ((d,.bool true)::env) w) (f:b<=a->xs prog fD fC hs H full K rest ((d,.bool false)::env) w):xs prog fD fC hs H full K (⟨some d,.binOp .lss t x y n,ty,pos,af,none⟩::rest) env w:=TD g m rfl ht (λs=>f fy)
theorem lR {t:TypeId} (g:gh env x=some (.int k a)) (m:gh env y=some (.int k b)) (f:a<=b) (h:xs prog fD fC hs H full K rest ((d,.bool true)::env) w):xs prog fD fC hs H full K (⟨some d,.binOp .leq t x y n,ty,pos,af,none⟩::rest) env w:=R1 g m rfl f h
theorem mf {t:TypeId} (f:gh env x=some (.int k a)) (g:gh env y=some (.int k b)) (n:b<a) (h:xs prog fD fC hs H full K rest ((d,.bool false)::env) w):xs prog fD fC hs H full K (⟨some d,.binOp .leq t x y m,ty,pos,af,none⟩::rest) env w:=R5 f g rfl fy h
theorem kU {t:TypeId} (g:gh env x=some (.int k a)) (m:gh env y=some (.int k b)) (ht:a<=b->xs prog fD fC hs H full K rest ((d,.bool true)::env) w) (f:b<a->xs prog fD fC hs H full K rest ((d,.bool false)::env) w):xs prog fD fC hs H full K (⟨some d,.binOp .leq t x y n,ty,pos,af,none⟩::rest) env w:=TD g m rfl ht (λs=>f fy)
theorem l9 {t:TypeId} (g:gh env x=some (.int k a)) (m:gh env y=some (.int k b)) (f:b<a) (h:xs prog fD fC hs H full K rest ((d,.bool true)::env) w):xs prog fD fC hs H full K (⟨some d,.binOp .gtr t x y n,ty,pos,af,none⟩::rest) env w:=R1 g m rfl f h
theorem mb {t:TypeId} (f:gh env x=some (.int k a)) (g:gh env y=some (.int k b)) (n:a<=b) (h:xs prog fD fC hs H full K rest ((d,.bool false)::env) w):xs prog fD fC hs H full K (⟨some d,.binOp .gtr t x y m,ty,pos,af,none⟩::rest) env w:=R5 f g rfl fy h
theorem lf {t:TypeId} (g:gh env x=some (.int k a)) (m:gh env y=some (.int k b)) (ht:b<a->xs prog fD fC hs H full K rest ((d,.bool true)::env) w) (f:a<=b->xs prog fD fC hs H full K rest ((d,.bool false)::env) w):xs prog fD fC hs H full K (⟨some d,.binOp .gtr t x y n,ty,pos,af,none⟩::rest) env w:=TD g m rfl ht (λs=>f fy)
theorem lY {t:TypeId} (g:gh env x=some (.int k a)) (m:gh env y=some (.int k b)) (f:b<=a) (h:xs prog fD fC hs H full K rest ((d,.bool true)::env) w):xs prog fD fC hs H full K (⟨some d,.binOp .geq t x y n,ty,pos,af,none⟩::rest) env w:=R1 g m rfl f h
theorem mc {t:TypeId} (f:gh env x=some (.int k a)) (g:gh env y=some (.int k b)) (n:a<b) (h:xs prog fD fC hs H full K rest ((d,.bool false)::env) w):xs prog fD fC hs H full K (⟨some d,.binOp .geq t x y m,ty,pos,af,none⟩::rest) env w:=R5 f g rfl fy h
theorem kY {t:TypeId} (g:gh env x=some (.int k a)) (m:gh env y=some (.int k b)) (ht:b<=a->xs prog fD fC hs H full K rest ((d,.bool true)::env) w) (f:a<b->xs prog fD fC hs H full K rest ((d,.bool false)::env) w):xs prog fD fC hs H full K (⟨some d,.binOp .geq t x y n,ty,pos,af,none⟩::rest) env w:=TD g m rfl ht (λs=>f fy)
end
end
section
section
variable {P:Program} {fD fC:TypeId->Bool} {hs:List Nat} {H:World->Prop}
def fl (P:Program) (fD fC:TypeId->Bool) (hs:List Nat) (H:World->Prop) (full:Array Oper) (n:Nat) (F:Nat->Nat) (K:Act->World->Prop):List Nat->Act->World->Prop
 |[],a,w=>ss P fD fC hs H full K [n] a w
 |i::r,a,w=>(F i≠0->ss P fD fC hs H full K (n::i::r) a w)/\(F i≠2->ss P fD fC hs H full (fl P fD fC hs H full n F K r) [i] a w)
def xf (P:Program) (fD fC:TypeId->Bool) (hs:List Nat) (H:World->Prop) (full:Array Oper) (K:Env->World->Prop) (on:Oper):List Oper->List Nat->Env->World->Prop
 |[],_,env,w=>xs P fD fC hs H full K [on] env w
 |o::r,fs,env,w=>match fs with
  |0::fs=>xs P fD fC hs H full (xf P fD fC hs H full K on r fs) [o] env w
  |2::_=>xs P fD fC hs H full K (on::o::r) env w
  |_::fs=>xs P fD fC hs H full K (on::o::r) env w/\xs P fD fC hs H full (xf P fD fC hs H full K on r fs) [o] env w
  |[]=>False
inductive Al (full:Array Oper) (F:Nat->Nat):List Nat->List Oper->List Nat->Prop where
 |nil:Al full F [] [] []
 |cons {i:Nat} {o:Oper} {f:Nat} {is:List Nat} {l:List Oper} {fs:List Nat} (ho:full[i]? =some o) (hf:F i=f) (h:Al full F is l fs):Al full F (i::is) (o::l) (f::fs)
theorem Nv {F:Nat->Nat} {K:Env->World->Prop} {K':Act->World->Prop} (D:Region.noSelect full=true) (m:∀(i:Nat) (o:Oper),full[i]? =some o->∀t,o.dst=some t->t<N) (s:∀env a w,Fits N env a->H w->K env w->K' a w):
  ∀{is:List Nat} {l:List Oper} {fs:List Nat},Al full F is l fs->∀(env:Env) (a:Act) (w:World),H w->Fits N env a->xs P fD fC hs H full K l env w->ss P fD fC hs H full K' is a w:=by
 intro is l fs x
 induction x with
 |nil=>intro env a w hw d h;exact s env a w d hw h
 | @cons i o _ _ _ _ f _ _ n=>
  intro env a w hw d h;obtain⟨g,B,ht,y⟩:=h;simp only[ss,f];unfold s1;rw[vM d B];cases g with
  |true=>
   obtain⟨C,u⟩:=ht rfl;rw[if_pos rfl,←DI d (λcs b=>AS D i o cs b f) C];exact kd hw (λv w' E G=>n _ _ w' E (d.put o.dst (m i o f) v) G) u
  |false=>
   rw[if_neg fV];exact n _ _ w hw (d.put o.dst (m i o f) undef) (y fx)
end
def ins (n:Nat) (fs:List Nat):List Nat:=fs.take n++0::fs.drop n
theorem Al.app {F:Nat->Nat} {is d:List Nat} {l':List Oper} {fs a:List Nat} (h:Al full F is l fs) (f:Al full F d l' a):Al full F (is++d) (l++l') (fs++a):=by
 induction h with
 |nil=>exact f
 |cons m g _ n=>exact .cons m g n
section
variable {hs:List Nat} {H:World->Prop} {full:Array Oper} {K:Env->World->Prop} {env:Env} {w:World} {on o:Oper} {r:List Oper} {fs:List Nat}
theorem xf2 (h:xs prog fD fC hs H full K (on::o::r) env w):xf prog fD fC hs H full K on (o::r) (2::fs) env w:=h
end
end
section
section
variable {P:Program} {fD fC:TypeId->Bool} {hs:List Nat} {H:World->Prop}
end
end
section
structure Fr (S:Nat->Prop) (w w':World):Prop where
 os:w'.os=w.os
 tape:w'.tape=w.tape
 output:w'.output=w.output
 size:w.heap.size<=w'.heap.size
 block:∀k,k<w.heap.size->¬S k->w'.heap[k]? =w.heap[k]?
def hG:Nat->Prop:=λ_=>False
abbrev Ext:=Fr hG
theorem Fr.refl (S:Nat->Prop) (w:World):Fr S w w:=⟨rfl,rfl,rfl,gJ _,λ_ _ _=>rfl⟩
theorem Fr.mono {S a:Nat->Prop} (h:Fr S w w') (hs:∀k,k<w.heap.size->S k->a k):Fr a w w':=⟨h.os,h.tape,h.output,h.size,λk hk d=>h.block k hk fS⟩
theorem Fr.trans {S d:Nat->Prop} {a b c:World} (h:Fr S a b) (k:Fr d b c) (hs:∀j,j<a.heap.size->d j->S j):Fr S a c:=
 ⟨k.os.trans h.os,k.tape.trans h.tape,k.output.trans h.output,mn h.size k.size,λi hi f=>(k.block i (uY hi h.size) fS).trans (h.block i hi f)⟩
theorem Fr.t {S:Nat->Prop} {a b c:World} (h:Fr S a b) (k:Fr S b c):Fr S a c:=h.trans k λ_ _ d=>d
theorem Fr.te {S:Nat->Prop} {a b c:World} (h:Fr S a b) (k:Ext b c):Fr S a c:=h.trans k λ_ _ d=>d.elim
theorem Ext.te {S:Nat->Prop} {a b c:World} (h:Ext a b) (k:Fr S b c) (hs:∀j,j<a.heap.size->¬S j):Ext a c:=h.trans k fS
theorem Ext.fr {S:Nat->Prop} {a b:World} (h:Ext a b):Fr S a b:=h.mono λ_ _ d=>d.elim
theorem Fr.drew (S:Nat->Prop) (w:World):Fr S w w.drew:=⟨rfl,rfl,rfl,gJ _,λ_ _ _=>rfl⟩
theorem Fr.d {S:Nat->Prop} {a b:World} (h:Fr S a b):Fr S a b.drew:=h.t (Fr.drew S b)
theorem Fr.alloc (S:Nat->Prop) (w:World) (o:Obj):Fr S w (w.alloc o):=⟨rfl,rfl,rfl,by simp,by grind [Below.heap_alloc]⟩
theorem Fr.setCell (S:Nat->Prop) (w:World) (p:Addr) (u:Value) (h:p.block<w.heap.size->S p.block):Fr S w (w.setCell p u):=
 ⟨rfl,rfl,rfl,by simp,by grind [Below.heap_setCell]⟩
theorem Fr.grown {S:Nat->Prop} {row:Option Nat} (h:w.grownBy w' row) (d:∀k,row=some k->k<w.heap.size->S k):Fr S w w':=
 ⟨h.os,h.tape,h.output,h.size,λk hk a=>h.block k hk fS⟩
theorem Ext.below (h:Ext w w'):Below w.heap.size w w':=⟨h.os,h.tape,h.output,h.size,λk hk=>h.block k hk λa=>a⟩
theorem Fr.cell {S:Nat->Prop} {w w':World} (h:Fr S w w') {p:Addr} {v:Value} (hc:w.cell? p=some v) (a:¬S p.block):w'.cell? p=some v:=
 (World.cell?_of_block (w:=w) (h.block p.block (Pb w p hc) a)).trans hc
theorem Ext.cell {w w':World} (h:Ext w w') {p:Addr} {v:Value} (hc:w.cell? p=some v):w'.cell? p=some v:=Fr.cell h hc λa=>a
def fU (w:World) (g:Nat) (t:TypeId) (cs:Array Value):Prop:=w.heap[g]? =some (.cells cs t (0,0))
section
variable {w w':World} {g:Nat} {t:TypeId} {cs:Array Value}
theorem fU.lt (h:fU w g t cs):g<w.heap.size:=by
 grind [Nat.lt_or_ge,Array.size,fU,Array.getElem?_eq_none]
theorem fU.cell (h:fU w g t cs) (i:Nat):w.cell? ⟨g,i,none⟩=cs[i]? :=by
 grind [fU,World.cell?]
theorem fU.frozen (h:fU w g t cs) (i:Nat):w.frozen? ⟨g,i,none⟩=false:=by
 grind [fU,World.frozen?]
theorem fU.new (w:World) (t:TypeId) (cs:Array Value):fU (w.alloc (.cells cs t)) w.heap.size t cs:=by
 show(w.heap.push _)[w.heap.size]? =_
 simp
theorem fU.drew (h:fU w g t cs):fU w.drew g t cs:=h
theorem fU.W0 (h:fU w g t cs) (i:Nat) (u:Value):fU (w.setCell ⟨g,i,none⟩ u) g t (cs.setIfInBounds i u):=by
 grind [fU,World.setCell]
theorem fU.fr {S:Nat->Prop} (h:fU w g t cs) (d:Fr S w w') (a:¬S g):fU w' g t cs:=(d.block g h.lt a).trans h
theorem fU.ext (h:fU w g t cs) (a:Ext w w'):fU w' g t cs:=h.fr a λd=>d
theorem fU.Br {a:Nat} {t':TypeId} {d:Array Value} (h:fU w g t cs) (f:fU w a t' d) (m:t≠t'):g≠a:=by
 grind [fU]
end
def Row (w:World) (v:Value) (n:Nat) (vs:List Value):Prop:=
 ∃A c,v= .slice A n c/\n<=c/\c<=maxLen/\(0<n->∃b o,A=some ⟨b,o,none⟩/\b<w.heap.size/\∀j u,vs[j]? =some u->w.cell? ⟨b,o+j,none⟩=some u)
theorem Row.fr {S:Nat->Prop} {n:Nat} (h:Row w v n vs) (a:Fr S w w') (g:∀b,v.ownBlock=some b->¬S b):Row w' v n vs:=by
 obtain⟨A,c,rfl,h1,d,f⟩:=h;refine⟨A,c,rfl,h1,d,λs=>?_⟩;obtain⟨b,o,rfl,m,hc⟩:=f s;exact⟨b,o,rfl,uY m a.size,λj u hu=>a.cell (hc j u hu) (g b fx)⟩
theorem Row.ext {n:Nat} (h:Row w v n vs) (a:Ext w w'):Row w' v n vs:=h.fr a λ_ _ d=>d
def qZ (w:World) (v:Value) (zs:List Int):Prop:=Row w v zs.length (zs.map (Value.int .i64))
def WU (w:World) (v:Value) (zs:List Int):Prop:=Row w v zs.length (zs.map (Value.int .u8))
theorem qj {zs:List Int} (a:0<zs.length->∃b o,A=some ⟨b,o,none⟩/\b<w.heap.size/\∀j u,(zs.map (Value.int k))[j]? =some u->w.cell? ⟨b,o+j,none⟩=some u) {i:Nat} (hi:i<zs.length):
  ∃b o z,A=some ⟨b,o,none⟩/\b<w.heap.size/\zs[i]? =some z/\w.cell? ⟨b,o+i,none⟩=some (.int k z)/\zs.drop i=z::zs.drop (i+1):=by
 obtain⟨b,o,e,d,hc⟩:=a fy;exact⟨b,o,zs[i],e,d,fS,hc i _ (by simp[hi]),mu⟩
variable {hs:List Nat} {H:World->Prop} {full:Array Oper} {K:Env->World->Prop} {rest:List Oper} {env:Env} {w:World} {d:Tmp} {dst:Option Tmp} {ty:TypeId} {pos:String} {af:Array Edge}
theorem aef {t:TypeId} {b n:Nat} {j:Int} (a:gh env x=some (.slice (some ⟨b,o,none⟩) n c)) (hi:gh env i=some (.int k j)) (f:es t=some 1) (h0:0<=j) (h1:j<n)
  (h:xs prog fD fC hs H full K rest ((d,.pointer (some ⟨b,o+j.toNat,none⟩))::env) w):xs prog fD fC hs H full K (⟨some d,.indexAddr t x i,ty,pos,af,none⟩::rest) env w:=
 xix a hi f h0 h1 (by rw[ph];exact h)
theorem pj {t:TypeId} {b n:Nat} (a:gh env x=some (.slice (some ⟨b,o,none⟩) n c)) (hi:gh env i=some (.int k (j:Int))) (f:es t=some 1) (h1:j<n)
  (h:xs prog fD fC hs H full K rest ((d,.pointer (some ⟨b,o+j,none⟩))::env) w):xs prog fD fC hs H full K (⟨some d,.indexAddr t x i,ty,pos,af,none⟩::rest) env w:=
 aef a hi f fy fy h
theorem iq {t d:TypeId} {i:Nat} (a:fU w g d cs) (m:gh env x=some (.pointer (some ⟨g,i,none⟩))) (n:gh env y=some v) (ht:one t=true) (f:v.oneCell'=true) (hi:decide (i<cs.size)=true)
  (h:∀w',fU w' g d (cs.setIfInBounds i v)->Fr (· =g) w w'->xs prog fD fC hs H full K rest env w') (hH:∀w',Fr (· =g) w w'->H w':=by intros;trivial):xs prog fD fC hs H full K (⟨none,.store t x y,ty,pos,af,none⟩::rest) env w:=by
 have fW:i<cs.size:=by simpa using hi
 have hc:w.cell? ⟨g,i,none⟩=some cs[i]:=by rw[a.cell];simp[fW]
 exact xst m n ht f hc (a.frozen i) (h _ (a.W0 i v) (by grind [Fr.setCell])) (by grind [Fr.setCell])
theorem Jt {t:TypeId} {m:IntKind} (f:gh env x=some (.int k a)) (g:gh env y=some (.int m b)) (h0:0<=b) (h1:b<=k.bits) (s:k.wrap (a*2^b.toNat)=r)
  (h:xs prog fD fC hs H full K rest ((d,.int k r)::env) w):xs prog fD fC hs H full K (⟨some d,.binOp .shl t x y n,ty,pos,af,none⟩::rest) env w:=by
 refine jA f g (eqGuard_at_int ..) (λw'=>?_) h
 simp_all [binOp_shl,shift_shl]
theorem WH {t:TypeId} {m:IntKind} (f:gh env x=some (.int k a)) (g:gh env y=some (.int m b)) (h0:0<=b) (h1:b<=k.bits)
  (h:xs prog fD fC hs H full K rest ((d,.int k (a/2^b.toNat))::env) w):xs prog fD fC hs H full K (⟨some d,.binOp .shr t x y n,ty,pos,af,none⟩::rest) env w:=by
 refine jA f g (eqGuard_at_int ..) (λw'=>?_) h
 simp_all [binOp_shr,shift_shr]
theorem KS {op:BinOp} {t:TypeId} (m:gh env x=some (.int k a)) (n:gh env y=some (.int k b)) (f:op= .and∨op= .or∨op= .xor) (g:bits op k a b=r)
  (h:xs prog fD fC hs H full K rest ((d,.int k r)::env) w):xs prog fD fC hs H full K (⟨some d,.binOp op t x y s,ty,pos,af,none⟩::rest) env w:=by
 refine jA m n (eqGuard_at_int ..) (λw'=>?_) h;subst g;rcases f with rfl|rfl|rfl<;>simp_all [binOp_and,intBits_and,binOp_or,intBits_or,binOp_xor,intBits_xor]
theorem Ot {t u:TypeId} (f:gh env x=some (.int k a)) (g:gh env y=some (.int k b))
  (h:xs prog fD fC hs H full K rest ((d,.int k (min a b))::env) w):xs prog fD fC hs H full K (⟨some d,.call {callee:= .builtin .min,args:=⟨[x,y]⟩,argTypes:=⟨[t,u]⟩},ty,pos,af,none⟩::rest) env w:=by
 refine gR fx (by grind [fX,Op.operands,Call.operands]) ⟨_,λw'=>?_,h⟩;have e:(if b<a then b else a)=min a b:=fy
 simp_all [execOp,resolve,invoke,builtin,Builtin.min_,Builtin.min2,fM]
theorem RS {t u:TypeId} (f:gh env x=some (.int k a)) (g:gh env y=some (.int k b))
  (h:xs prog fD fC hs H full K rest ((d,.int k (max a b))::env) w):xs prog fD fC hs H full K (⟨some d,.call {callee:= .builtin .max,args:=⟨[x,y]⟩,argTypes:=⟨[t,u]⟩},ty,pos,af,none⟩::rest) env w:=by
 refine gR fx (by grind [fX,Op.operands,Call.operands]) ⟨_,λw'=>?_,h⟩;have e:(if b>a then b else a)=max a b:=fy
 simp_all [execOp,resolve,invoke,builtin,Builtin.max_,Builtin.max2,fM]
def p2 (b:Int):Int:=2^b.toNat
theorem WO (b:Int):1<=p2 b:=by
 have:(0:Int)<2^b.toNat:=Int.pow_pos fV;unfold p2;omega
theorem YO {k:Nat} (a:b<=k):p2 b<=2^k:=by
 unfold p2;have h1:b.toNat<=k:=fy;have:(2:Nat)^b.toNat<=2^k:=Ae fV h1
 exact_mod_cast this
end
section
structure xv (t e:TypeId) (z:Value) (size bytes:Nat):Prop where
 u:prog.underlying t=some (.slice e)
 i:∃i,prog.info? e=some i/\i.zero=some z/\i.size=size/\i.bytes=bytes
theorem M7 {t:TypeId} {z:Value} {size:Nat} (hu:prog.underlying t=some (.slice e)) (h:(prog.info? e).map (λi=>(i.zero,i.size,i.bytes))=some (some z,size,bytes)):xv t e z size bytes:=by
 refine⟨hu,?_⟩;cases hi:prog.info? e with
 |none=>rw[hi]at h;cases h
 |some i=>
  rw[hi]at h;simp only[tH,C2,QK]at h;exact⟨i,rfl,h⟩
variable {hs:List Nat} {H:World->Prop} {full:Array Oper} {K:Env->World->Prop} {rest:List Oper} {env:Env} {w:World} {d:Tmp} {dst:Option Tmp} {ty:TypeId} {pos:String} {af:Array Edge}
theorem xw {op:Op} (d:fX env ⟨dst,op,ty,pos,af,none⟩=true) (hc:cls fD fC op= .w) (f:(execOp (ev env) ⟨dst,op,ty,pos,af,none⟩).run prog w= .ok (.value v) w')
  (h:xs prog fD fC hs H full K rest (put env dst v) w') (hH:H w'):xs prog fD fC hs H full K (⟨dst,op,ty,pos,af,none⟩::rest) env w:=by
 refine gR fx d ?_;have a:iT fD fC hs ⟨dst,op,ty,pos,af,none⟩= .w:=by unfold iT;rw[hc]
 rw[a];show out prog _ _
 rw[f];exact⟨hH,h⟩
theorem XQ {t:TypeId} {z:Value} {n:Int} (a:xv t e z 1 bytes) (C:z.cells= #[z]) (E:gh env x=some (.int .i64 n)) (F:gh env y=some (.int .i64 n)) (h0:0<=n) (f:bytes*n.toNat<=281474976710656) (D:n<=9223372036854775807)
  (h:∀w',fU w' w.heap.size e (Array.replicate n.toNat z)->Ext w w'->w'.heap.size=w.heap.size+1->xs prog fD fC hs H full K rest ((d,.slice (some ⟨w.heap.size,0,none⟩) n.toNat n.toNat)::env) w') (hH:∀w',Ext w w'->H w':=by intros;trivial):
  xs prog fD fC hs H full K (⟨some d,.makeSlice t x y,ty,pos,af,none⟩::rest) env w:=by
 obtain⟨hu,i,hi,B,hs,g⟩:=a;obtain⟨m,rfl⟩:=lO h0
 have u:=run_make (P:=prog) w t e i z hu hi B .i64 .i64 m m fy fy (by
  rw[g];simp only[jf]at f;have s:((bytes*m:Nat):Int)<=281474976710656:=fy
  rwa[Int.natCast_mul]at s) fy
 simp only[jf]at u h;refine xw (by grind [fX,Op.operands]) fx (v:= .slice (some ⟨w.heap.size,0,none⟩) m m) (w':=w.alloc (.cells (Array.replicate m z) e)) ?_ (h _ (fU.new _ _ _) (Fr.alloc _ _ _) ir) (hH _ (Fr.alloc _ _ _))
 have hm:madeCells z.cells (m*i.size)=Array.replicate m z:=by
  rw[C,hs,ph];apply Gh;rw[toList_madeCells_one];simp
 simp_all [execOp,fM]
def evp (env:Env):Nat->List (Nat×Operand)->Option (List Value)
 |_,[]=>some []
 |k,(j,x)::r=>match Nat.beq j k,gh env x,evp env (k+1) r with
  |true,some v,some vs=>some (v::vs)
  |_,_,_=>none
theorem zp:∀{l:List (Nat×Operand)} {k:Nat} {vs:List Value},evp env k l=some vs->(l.map λp=>(p.1,ev env p.2))=(vs.zipIdx k).map (λp=>(p.2,p.1))/\∀p∈l,(gh env p.2).isSome=true
 |[],k,vs,h=>by injection h with h;simp_all
 | (j,x)::r,k,vs,h=>by
  simp only[evp]at h;split at h
  ·rename_i v m f g a;injection h with h;subst h
   obtain⟨h1,d⟩:=zp a
   grind [Nat.eq_of_beq_eq_true,List.zipIdx_cons,fM]
  ·cases h
theorem Ia {t:TypeId} {z:Value} {n:Nat} {parts:List (Nat×Operand)} (a:xv t e z 1 bytes) (g:evp env 0 parts=some vs) (f:vs.length=n) (h0:0<n) (y:n<=16777216) (h1:∀u∈vs,u.oneCell'=true)
  (h:∀w',fU w' w.heap.size e vs.toArray->Ext w w'->w'.heap.size=w.heap.size+1->xs prog fD fC hs H full K rest ((d,.slice (some ⟨w.heap.size,0,none⟩) n n)::env) w') (hH:∀w',Ext w w'->H w':=by intros;trivial):
  xs prog fD fC hs H full K (⟨some d,.buildSlice t n parts.toArray,ty,pos,af,none⟩::rest) env w:=by
 obtain⟨hu,i,hi,s,hs,x⟩:=a;obtain⟨he,B⟩:=zp g;refine xw (by grind [fX,Op.operands,List.all_eq_true]) fx (v:= .slice (some ⟨w.heap.size,0,none⟩) n n) (w':=w.alloc (.cells vs.toArray e)) ?_ (h _ (fU.new _ _ _) (Fr.alloc _ _ _) ir) (hH _ (Fr.alloc _ _ _))
 have C:=run_buildSlice (P:=prog) w t e n ((parts.map λp=>(p.1,ev env p.2)).toArray) vs.toArray i z hu hi s (by rw[hs];omega) (by rw[hs];omega) (by
  rw[hs];show Instr.fill _ _ (parts.map λp=>(p.1,ev env p.2))=_
  rw[he]
  exact Great.fill_flat _ _ (λv m=>by have:=h1 v m;cases v<;>first|rfl|cases this) (by simp[f]))
 simp_all [ev,execOp]
theorem hD {t:TypeId} (a:gh env x=some v)
  (h:∀w',fU w' w.heap.size t v.cells->Ext w w'->w'.heap.size=w.heap.size+1->xs prog fD fC hs H full K rest ((d,.pointer (some ⟨w.heap.size,0,none⟩))::env) w') (hH:∀w',Ext w w'->H w':=by intros;trivial):
  xs prog fD fC hs H full K (⟨some d,.box t x,ty,pos,af,none⟩::rest) env w:=by
 refine xw (by grind [fX,Op.operands]) fx (v:= .pointer (some ⟨w.heap.size,0,none⟩)) (w':=w.alloc (.cells v.cells t)) ?_ (h _ (fU.new _ _ _) (Fr.alloc _ _ _) ir) (hH _ (Fr.alloc _ _ _));simp[execOp,fM a,Instr.box,newVar,newRow]
theorem gy {t:TypeId} {z:Value} (a:((prog.info? t).bind (·.zero))=some z)
  (h:∀w',fU w' w.heap.size t z.cells->Ext w w'->w'.heap.size=w.heap.size+1->xs prog fD fC hs H full K rest ((d,.pointer (some ⟨w.heap.size,0,none⟩))::env) w') (hH:∀w',Ext w w'->H w':=by intros;trivial):
  xs prog fD fC hs H full K (⟨some d,.alloc t,ty,pos,af,none⟩::rest) env w:=by
 refine xw (by simp[fX,Op.operands]) fx (v:= .pointer (some ⟨w.heap.size,0,none⟩)) (w':=w.alloc (.cells z.cells t)) ?_ (h _ (fU.new _ _ _) (Fr.alloc _ _ _) ir) (hH _ (Fr.alloc _ _ _));cases hi:prog.info? t with
 |none=>rw[hi]at a;cases a
 |some i=>
  rw[hi]at a;simp only[C4]at a;simp[execOp,Instr.alloc,zeroValue,typeInfo,hi,a,newVar,newRow]
def UO (env:Env):List (Nat×Operand)->Option (List (Nat×Value))
 |[]=>some []
 |(j,x)::r=>match gh env x,UO env r with
  |some v,some vs=>some ((j,v)::vs)
  |_,_=>none
theorem vj:∀{l:List (Nat×Operand)} {vs:List (Nat×Value)},UO env l=some vs->(l.map λp=>(p.1,ev env p.2))=vs/\∀p∈l,(gh env p.2).isSome=true
 |[],vs,h=>by injection h with h;grind
 | (j,x)::r,vs,h=>by
  simp only[UO]at h;split at h
  ·rename_i v g f a;injection h with h;subst h
   obtain⟨h1,d⟩:=vj a
   grind [fM]
  ·cases h
theorem qv {t:TypeId} {parts:List (Nat×Operand)} {vs:List (Nat×Value)} {cells:Array Value} (g:UO env parts=some vs) (f:prog.built t vs=some cells)
  (h:xs prog fD fC hs H full K rest ((d,.agg cells)::env) w):xs prog fD fC hs H full K (⟨some d,.build t parts.toArray,ty,pos,af,none⟩::rest) env w:=by
 obtain⟨he,n⟩:=vj g;refine gR fx (by grind [fX,Op.operands,List.all_eq_true]) ⟨.agg cells,λw'=>?_,h⟩;have m:=run_build (P:=prog) w' t ((parts.map λp=>(p.1,ev env p.2)).toArray) cells (by show prog.built t (parts.map λp=>(p.1,ev env p.2))=_;rw[he];exact f);have a:(parts.toArray.map λx=>match x with|(i,x)=>(i,ev env x))=(parts.map λp=>(p.1,ev env p.2)).toArray:=by simp
 simp only[execOp];rw[a];simp[m]
theorem Am {t:TypeId} {i:TypeInfo} {n:Nat} {lo hi:Option Value} {l h:Nat} (hu:prog.underlying t=some (.slice e)) (f:prog.info? e=some i)
  (g:lo=none/\l=0∨∃k,lo=some (.int k (l:Int))) (d:hi=none/\h=n∨∃k,hi=some (.int k (h:Int))) (h1:l<=h) (a:h<=c) (w:World):
  (Instr.sliceAt t (.slice A n c) lo hi none).run prog w= .ok (.slice (if c=l then A else A.map (·.add (l*i.size))) (h-l) (c-l)) w:=by
 rcases g with⟨rfl,rfl⟩|⟨k,rfl⟩<;>rcases d with⟨rfl,rfl⟩|⟨m,rfl⟩<;>
  simp[Instr.sliceAt,Instr.slice,run_underlying hu,Instr.sliceBounds,Instr.sliceBound,asIntOf,sizeOf,typeInfo,f]<;>(first|omega|skip)
 rw[if_pos a,if_pos h1]
theorem adD {t:TypeId} {a:IntKind} {n:Nat} {l h:Int} (m:es t=some z) (C:gh env x=some (.slice A n c)) (y:gh env lo=some (.int k l)) (v:gh env hi=some (.int a h)) (h0:0<=l) (h1:l<=h) (s:h<=c)
  (hc:∀f,(∀b o,A=some ⟨b,o,none⟩->l<c->f=some ⟨b,o+l.toNat*z,none⟩)->xs prog fD fC hs H full K rest ((d,.slice f (h.toNat-l.toNat) (c-l.toNat))::env) w):
  xs prog fD fC hs H full K (⟨some d,.slice t x (some lo) (some hi) none,ty,pos,af,none⟩::rest) env w:=by
 obtain⟨e,i,hu,g,B⟩:=mL m;obtain⟨l,rfl⟩:=lO h0;obtain⟨h,rfl⟩:=lO (Int.le_trans h0 h1);refine gR fx (by grind [fX,Op.operands]) ⟨_,λw'=>?_,hc (if c=l then A else A.map (·.add (l*i.size))) (λb o u fW=>?_)⟩
 ·have:=Am (A:=A) (n:=n) (c:=c) (lo:=some (.int k l)) (hi:=some (.int a h)) (l:=l) (h:=h) hu g (.inr ⟨k,rfl⟩) (.inr ⟨a,rfl⟩) fy fy w'
  simp_all [execOp,fM]
 grind [Addr.add_lit]
theorem P5 {t:TypeId} {n:Nat} {l:Int} (g:es t=some z) (y:gh env x=some (.slice A n c)) (u:gh env lo=some (.int k l)) (h0:0<=l) (h1:l<=n) (m:n<=c)
  (hc:∀a,(∀b o,A=some ⟨b,o,none⟩->l<c->a=some ⟨b,o+l.toNat*z,none⟩)->xs prog fD fC hs H full K rest ((d,.slice a (n-l.toNat) (c-l.toNat))::env) w):
  xs prog fD fC hs H full K (⟨some d,.slice t x (some lo) none none,ty,pos,af,none⟩::rest) env w:=by
 obtain⟨e,i,hu,f,v⟩:=mL g;obtain⟨l,rfl⟩:=lO h0;refine gR fx (by grind [fX,Op.operands]) ⟨_,λw'=>?_,hc (if c=l then A else A.map (·.add (l*i.size))) (λb o s fW=>?_)⟩
 ·have:=Am (A:=A) (n:=n) (c:=c) (lo:=some (.int k l)) (hi:=none) (l:=l) (h:=n) hu f (.inr ⟨k,rfl⟩) (.inl ⟨rfl,rfl⟩) fy fy w'
  simp_all [execOp,fM]
 grind [Addr.add_lit]
theorem WE {t:TypeId} {a:IntKind} {n:Nat} {h:Int} (m:es t=some z) (B:gh env x=some (.slice A n c)) (v:gh env hi=some (.int a h)) (h1:0<=h) (s:h<=c)
  (hc:∀f,(∀b o,A=some ⟨b,o,none⟩->0<c->f=some ⟨b,o,none⟩)->xs prog fD fC hs H full K rest ((d,.slice f h.toNat c)::env) w):
  xs prog fD fC hs H full K (⟨some d,.slice t x none (some hi) none,ty,pos,af,none⟩::rest) env w:=by
 obtain⟨e,i,hu,g,y⟩:=mL m;obtain⟨h,rfl⟩:=lO h1;refine gR fx (by grind [fX,Op.operands]) ⟨_,λw'=>?_,hc (if c=0 then A else A.map (·.add (0*i.size))) (λb o u fW=>?_)⟩
 ·have:=Am (A:=A) (n:=n) (c:=c) (lo:=none) (hi:=some (.int a h)) (l:=0) (h:=h) hu g (.inl ⟨rfl,rfl⟩) (.inr ⟨a,rfl⟩) fy fy w'
  simp_all [execOp,fM]
 grind [Addr.add_lit]
end
section
theorem kD {t n:Nat} (h:get ks t=some n):((∃fs,prog.underlying t=some (.struct fs))∨∃m e,prog.underlying t=some (.array m e))/\∃i,prog.info? t=some i/\i.size=n:=by
 have:=lj.1 MK _ (get_mem h);unfold Qg at this;dsimp only at this;split at this<;>simp_all
theorem I8 {t a:TypeId} (n:fU w g a cs) (ht:get ks t=some cs.size):(loadVar t ⟨g,0,none⟩).run prog w= .ok (.agg cs) w:=by
 obtain⟨h1|h1,i,d,f⟩:=kD ht
 ·obtain⟨fs,h1⟩:=h1;exact run_loadVar_row (P:=prog) w g a t cs (0,0) _ n h1 fx (by rw[d];simp[f])
 ·obtain⟨m,e,h1⟩:=h1;exact run_loadVar_row (P:=prog) w g a t cs (0,0) _ n h1 fx (by rw[d];simp[f])
theorem Pt {t n:Nat} (h:get R9 t=some n) (a:get SO t=some z):∃e i,prog.underlying t=some (.array n e)/\prog.info? e=some i/\i.size=z/\1<n:=by
 have:=lj.1 Mk _ (get_mem h)
 grind [Pp]
variable {hs:List Nat} {H:World->Prop} {full:Array Oper} {K:Env->World->Prop} {rest:List Oper} {env:Env} {w:World} {d:Tmp} {dst:Option Tmp} {ty:TypeId} {pos:String} {af:Array Edge}
theorem Z7 {t:TypeId} {b n:Nat} (s:gh env x=some (.pointer (some ⟨b,o,none⟩))) (hi:gh env i=some (.int k (j:Int))) (m:get R9 t=some n) (u:get SO t=some 1) (h1:j<n)
  (h:xs prog fD fC hs H full K rest ((d,.pointer (some ⟨b,o+j,none⟩))::env) w):xs prog fD fC hs H full K (⟨some d,.indexAddr t x i,ty,pos,af,none⟩::rest) env w:=by
 obtain⟨e,y,a,f,g,v⟩:=Pt m u;refine gR fx (by grind [fX,Op.operands]) ⟨_,λw'=>?_,h⟩;simp[execOp,fM s,fM hi,Instr.indexAt,asIntOf,Instr.sureAddr,run_underlying a,sizeOf,typeInfo,f,g,nf]
 grind
theorem Sh {t:TypeId} {b n:Nat} (j q:Nat) (m:gh env x=some (.pointer (some ⟨b,o,none⟩))) (hi:gh env i=some (.int k a)) (g:get R9 t=some n) (s:get SO t=some 1) (f:a=j) (hq:o+j=q) (h1:j<n)
  (h:xs prog fD fC hs H full K rest ((d,.pointer (some ⟨b,q,none⟩))::env) w):xs prog fD fC hs H full K (⟨some d,.indexAddr t x i,ty,pos,af,none⟩::rest) env w:=by
 subst f;subst hq;exact Z7 m hi g s h1 h
theorem kV {t:TypeId} {b n:Nat} (j q:Nat) (g:gh env x=some (.slice (some ⟨b,o,none⟩) n c)) (hi:gh env i=some (.int k a)) (m:es t=some 1) (f:a=j) (hq:o+j=q) (h1:j<n)
  (h:xs prog fD fC hs H full K rest ((d,.pointer (some ⟨b,q,none⟩))::env) w):xs prog fD fC hs H full K (⟨some d,.indexAddr t x i,ty,pos,af,none⟩::rest) env w:=by
 subst f;subst hq;exact pj g hi m h1 h
theorem gM {t a:TypeId} (f:fU w g a cs) (n:gh env x=some (.pointer (some ⟨g,0,none⟩))) (ht:get ks t=some cs.size)
  (h:xs prog fD fC hs H full K rest ((d,.agg cs)::env) w) (hm:nK hs (some d)=false:=by rfl):xs prog fD fC hs H full K (⟨some d,.load t x,ty,pos,af,none⟩::rest) env w:=by
 refine gR fx (by grind [fX,Op.operands]) ?_;have m:iT fD fC hs ⟨some d,.load t x,ty,pos,af,none⟩= .r:=by simp[iT,cls,hm]
 rw[m];refine⟨.agg cs,?_,h⟩;simp[execOp,fM n,Instr.loadAt,Instr.sureAddr,I8 f ht]
theorem hd {t a:TypeId} {old:Array Value} (d:fU w g a old) (B:gh env x=some (.pointer (some ⟨g,0,none⟩))) (C:gh env y=some (.agg cs)) (ht:get ks t=some cs.size) (u:old.size=cs.size) (h1:cs.all (·.oneCell')=true)
  (h:∀w',fU w' g a cs->Fr (· =g) w w'->xs prog fD fC hs H full K rest env w') (hH:∀w',Fr (· =g) w w'->H w':=by intros;trivial):xs prog fD fC hs H full K (⟨none,.store t x y,ty,pos,af,none⟩::rest) env w:=by
 obtain⟨_,i,m,n⟩:=kD ht;refine gR fx (by grind [fX,Op.operands]) ?_;have v:=run_storeVar_row (P:=prog) w g a t old cs d (by rw[m];simp[n]) u h1;have f:Fr (· =g) w (w.setRow g cs):=⟨rfl,rfl,rfl,by simp[World.setRow],by grind [World.setRow]⟩
 have s:fU (w.setRow g cs) g a cs:=by
  unfold fU at d⊢;simp[World.setRow,tw,d]
 show out prog ((execOp (ev env) ⟨none,.store t x y,ty,pos,af,none⟩).run prog w) _
 have e:(execOp (ev env) ⟨none,.store t x y,ty,pos,af,none⟩).run prog w= .ok .skip (w.setRow g cs):=by
  simp[execOp,fM B,fM C,Instr.storeAt,Instr.sureAddr,v]
 rw[e];exact⟨hH _ f,h _ s f⟩
theorem Cn {fn:Func} {d:Value->World->Prop} {k:List It} {t:Tmp} (v:fn.results= #[.cell t m]) (x:look env t=some (.pointer (some ⟨g,0,none⟩))) (s:fU w g n cs) (ht:get ks m=some cs.size) (h:d (.agg cs) w):
  T prog fn d (.code .ret::k) env w:=λa f=>by
 refine wp_ret (mM (show bodyPost prog fn (R7 d) .ret a w from⟨f.1,.agg cs,?_,_,rfl,h⟩) k);have u:a.tmps[t]?.getD undef= .pointer (some ⟨g,0,none⟩):=by rw[f.2.2 t _ x];rfl
 simp[results,v,u,asAddr,I8 s ht]
end
section
def val (d:List Nat):Nat:=d.foldl (λa b=>2*a+b) 0
def Bits (a:List Nat):Prop:=∀b∈a,b<2
def aas (l:List Nat):Nat:=val (l.take 8++List.replicate (8-l.length) 0)
def pk (a:List Nat):List Int:=(List.range ((a.length+7)/8)).map λi=>(aas (a.drop (8*i)):Int)
end
section
section
variable {hs:List Nat} {H:World->Prop} {full:Array Oper} {K:Env->World->Prop} {rest:List Oper} {env:Env} {w:World} {d:Tmp} {dst:Option Tmp} {ty:TypeId} {pos:String} {af:Array Edge}
theorem vQ {f:FuncId} {t:Tmp} {cap:Array Value} {a:Array TypeId} {S:Value->World->Prop} (g:gh env (.tmp t)=some (.func (.func f) #[] cap)) (s:Ol env args=some vs) (y:bit qs f=true) (x:fL prog f (vs.toArray++cap) w S)
  (h:∀v w',S v w'->xs prog fD fC hs H full K rest (put env dst v) w') (hH:∀v w',S v w'->H w':=by intros;trivial):xs prog fD fC hs H full K (⟨dst,.call {callee:= .value (.tmp t),args:=args.toArray,argTypes:=a},ty,pos,af,none⟩::rest) env w:=by
 obtain⟨h1,n⟩:=n4 s;obtain⟨fn,B,d,C⟩:=Fz y;refine gR fx (by simpa[fX,Op.operands,Call.operands,g]using n) ?_;show out prog ((execOp (ev env) ⟨dst,.call {callee:= .value (.tmp t),args:=args.toArray,argTypes:=a},ty,pos,af,none⟩).run prog w) _
 have e:(execOp (ev env) ⟨dst,.call {callee:= .value (.tmp t),args:=args.toArray,argTypes:=a},ty,pos,af,none⟩).run prog w= .ok (.enter f (vs.toArray++cap)) w:=by
  have u:¬fn.body=none:=by intro e;rw[e]at d;cases d
  have D:¬fn.name= "runtime.NumGoroutine" :=by simpa using C
  have m:ev env (.tmp t)= .func (.func f) #[] cap:=fM g;simp[execOp,resolve,m,Deferred.ofValue,invoke,callFunc,h1,B,D,u]
 rw[e];exact pP x λe w' ⟨v,he,k⟩=>⟨v,he,hH v w' k,h v w' k⟩
theorem TO {f:FuncId} {fn:Func} {e:Array Value->Sem Value} {a:Array TypeId} (t:prog.funcs[f]? =some fn) (u:(fn.name== "runtime.NumGoroutine")=false) (s:fn.body.isNone=true) (x:Extern.findNext fn=none) (he:Extern.find fn=some e)
  (n:Ol env args=some vs) (y:(e vs.toArray).run prog w= .ok v w) (h:xs prog fD fC hs gL full K rest (put env dst v) w):
  xs prog fD fC hs gL full K (⟨dst,.call {callee:= .value (.func f),args:=args.toArray,argTypes:=a},ty,pos,af,none⟩::rest) env w:=by
 obtain⟨h1,g⟩:=n4 n;refine xw (v:=v) (w':=w) (by simpa[fX,Op.operands,Call.operands,gh]using g) fx ?_ h True.intro;have d:ev env (.func f)= .func (.func f) #[] #[]:=rfl;have m:(callFunc f vs.toArray).run prog w= .ok (.value v) w:=by rw[run_callFunc_extern t u s x he,y];rfl
 simp[execOp,resolve,d,Deferred.ofValue,invoke,h1,m]
end
theorem iX {fn:Func} {a:Value->World->Prop} {k:List It} {env:Env} {c:Code} (h:T prog fn a (.code c:: .vH (Dn (λ_ _ _ _=>False))::k) env w):T prog fn a (.code (.scope c)::k) env w:=
 JU (λ_ _ _ _=>False) (λ_ _ _ _ h=>h.elim) (λ_ _ _ _ _ _ h=>h.elim) (λ_=>h)
theorem qD {fn:Func} {d:Value->World->Prop} {k:List It} {env:Env} {α:Type} (E:α->Env) (f:α->World->Prop) {c:Code} (h1:T prog fn d (.code c:: .fin (λenv w=>∃y,Sub (E y) env/\f y w)::k) env w) (m:∀y w',f y w'->T prog fn d k (E y) w'):T prog fn d (.code c::k) env w:=λa n=>by
 refine wp_mono (h1 a n) ?_;intro e g w' hq;cases e with
 |normal=>obtain⟨v,s,y,hs,t⟩:=hq;exact m y w' t g (s.sub hs)
 |exit id=>exact hq
 |goto l=>exact hq
 |ret=>exact hq
 |panic u=>exact hq
 |outgrown=>exact hq
end
section
def tY (w:World) (g:Nat) (l:List (Int×Int)):Prop:=∃es clock,w.heap[g]? =some (.map es clock)/\es.toList.map (λe=>(e.key,e.val))=l.map λp=>(Value.int .i64 p.1,Value.int .i64 p.2)
def A2 (k:Int):List (Int×Int)->Option Int
 |[]=>none
 |p::r=>if p.1=k then some p.2 else A2 k r
theorem tY.lt {l:List (Int×Int)} (h:tY w g l):g<w.heap.size:=by
 obtain⟨es,clock,h1,_⟩:=h
 grind
theorem tY.fr {S:Nat->Prop} {l:List (Int×Int)} (h:tY w g l) (f:Fr S w w') (d:¬S g):tY w' g l:=by
 have fW:=h.lt;obtain⟨es,clock,h1,a⟩:=h;exact⟨es,clock,(f.block g fW d).trans h1,a⟩
theorem tY.ext {l:List (Int×Int)} (h:tY w g l) (a:Ext w w'):tY w' g l:=h.fr a λd=>d
theorem rC (k:Int):∀(es:List MapEntry) (l:List (Int×Int)) (i:Nat),es.map (λe=>(e.key,e.val))=l.map (λp=>(Value.int .i64 p.1,Value.int .i64 p.2))->
  ∃r,Instr.findNow (.int .i64) (.int .i64 k) es i=some r/\r.map (·.2)=(A2 k l).map (Value.int .i64)
 |[],[],_,_=>⟨none,rfl,rfl⟩
 |[],_::_,_,h=>by simp at h
 |_::_,[],_,h=>by simp at h
 | e::es,p::l,i,h=>by
  simp only[jm,zE,QK]at h;obtain⟨⟨h1,d⟩,a⟩:=h;have hs:Instr.sameNow (.int .i64) (.int .i64 k) e.key=some (k==p.1):=by rw[h1];rfl
  by_cases hk:p.1=k
  ·simp_all [Instr.findNow,A2]
  ·obtain⟨r,f,g⟩:=rC k es l (i+1) a
   grind [A2,Instr.findNow]
section
variable {hs:List Nat} {H:World->Prop} {full:Array Oper} {K:Env->World->Prop} {rest:List Oper} {env:Env} {w:World} {d:Tmp} {ty:TypeId} {pos:String} {af:Array Edge}
theorem aan {t:TypeId} (h:∀w',tY w' w.heap.size []->Ext w w'->w'.heap.size=w.heap.size+1->xs prog fD fC hs gL full K rest ((d,.map (some w.heap.size))::env) w'):
  xs prog fD fC hs gL full K (⟨some d,.makeMap t none,ty,pos,af,none⟩::rest) env w:=by
 refine xw (by simp[fX,Op.operands]) fx (v:= .map (some w.heap.size)) (w':=w.alloc (.map #[] 0)) ?_ (h _ ⟨#[],0,by
  show(w.heap.push _)[w.heap.size]? =_
  simp,rfl⟩ (Fr.alloc _ _ _) ir) True.intro
 simp[execOp,run_makeMap]
theorem W7 {w:World} {l:List (Int×Int)} (s:tY w g l) (t a d:TypeId) (hu:prog.underlying t=some (.map a d)) (hk:prog.underlying a=some (.int .i64)) (B:(zeroValue d).run prog w= .ok (.int .i64 0) w) (k:Int):
  (Instr.lookup t (.map (some g)) (.int .i64 k) true).run prog w= .ok (.tuple #[.int .i64 ((A2 k l).getD 0),.bool (A2 k l).isSome]) w:=by
 obtain⟨es,clock,h1,m⟩:=s;obtain⟨r,n,f⟩:=rC k es.toList l 0 m;have hc:(Instr.checkKey es.isEmpty 10000 a (.int .i64 k)).run prog w= .ok () w:=by grind [MapKept.run_checkKey,MapKept.IsKey]
 have x:(getObj g).run prog w= .ok (.map es clock) w:=by simp[getObj,Sem.run,h1]
 have u:(Instr.findKey a (.int .i64 k) es.toList).run prog w= .ok r w:=by
  simp[Instr.findKey,run_underlying hk,n]
 simp only[Instr.lookup,sD,run_underlying hu,sM,x,hc,P0,u];cases r with
 |none=>
  have:A2 k l=none:=by simpa using f.symm
  simp_all
 |some q=>
  obtain⟨j,v⟩:=q;simp only[tH]at f;cases y:A2 k l<;>simp_all
theorem xlk {t f a:TypeId} {l:List (Int×Int)} {k:Int} (hu:prog.underlying t=some (.map f a)) (hk:prog.underlying f=some (.int .i64)) (u:∀w',(zeroValue a).run prog w'= .ok (.int .i64 0) w') (m:tY w g l) (n:gh env x=some (.map (some g))) (s:gh env y=some (.int .i64 k))
  (h:xs prog fD fC hs gL full K rest ((d,.tuple #[.int .i64 ((A2 k l).getD 0),.bool (A2 k l).isSome])::env) w):xs prog fD fC hs gL full K (⟨some d,.lookup t x y true,ty,pos,af,none⟩::rest) env w:=by
 refine xw (v:= .tuple #[.int .i64 ((A2 k l).getD 0),.bool (A2 k l).isSome]) (w':=w) (by grind [fX,Op.operands]) fx ?_ h True.intro;simp[execOp,fM n,fM s,W7 m t f a hu hk (u w) k]
theorem ZT {t a:TypeId} {z:Operand} {l:List (Int×Int)} {k v:Int} (hu:prog.underlying t=some (.map a n)) (hk:prog.underlying a=some (.int .i64)) (m:tY w g l) (B:A2 k l=none) (E:gh env x=some (.map (some g))) (F:gh env y=some (.int .i64 k)) (G:gh env z=some (.int .i64 v))
  (h:∀w',tY w' g (l++[(k,v)])->Fr (· =g) w w'->xs prog fD fC hs gL full K rest env w'):xs prog fD fC hs gL full K (⟨none,.mapUpdate t x y z,ty,pos,af,none⟩::rest) env w:=by
 have fW:=m.lt;obtain⟨es,clock,h1,d⟩:=m;obtain⟨r,s,f⟩:=rC k es.toList l 0 d
 have C:r=none:=by
  rw[B]at f;cases r with
  |none=>rfl
  |some _=>cases f
 subst C;have hc:(Instr.checkKey false 10000 a (.int .i64 k)).run prog w= .ok () w:=by grind [MapKept.run_checkKey,MapKept.IsKey]
 have D:(Instr.mapUpdate t (.map (some g)) (.int .i64 k) (.int .i64 v)).run prog w= .ok () {w with heap:=w.heap.setIfInBounds g (.map (es.push {key:= .int .i64 k,val:= .int .i64 v,born:=clock}) (clock+1))}:=by
  simp[Instr.mapUpdate,run_underlying hu,Wy h1,hc,UT hk s,VA _ h1,Result.andThen]
 refine gR fx (by grind [fX,Op.operands]) ?_;have u:iT fD fC hs ⟨none,.mapUpdate t x y z,ty,pos,af,none⟩= .w:=rfl;rw[u];show out prog ((execOp (ev env) ⟨none,.mapUpdate t x y z,ty,pos,af,none⟩).run prog w) _
 have e:(execOp (ev env) ⟨none,.mapUpdate t x y z,ty,pos,af,none⟩).run prog w= .ok .skip {w with heap:=w.heap.setIfInBounds g (.map (es.push {key:= .int .i64 k,val:= .int .i64 v,born:=clock}) (clock+1))}:=by
  simp[execOp,fM E,fM F,fM G,D]
 rw[e];refine⟨True.intro,h _ ⟨es.push {key:= .int .i64 k,val:= .int .i64 v,born:=clock},clock+1,?_,?_⟩ ⟨rfl,rfl,rfl,?_,?_⟩⟩
 ·grind
 ·simp[d]
 ·grind
 grind
end
theorem hP {env:Env} {fn:Func} {f:Value->World->Prop} {k:List It} {t:Tmp} {d:Value} (y:fn.results= #[.cell t n,.tmp u]) (C:look env t=some (.pointer (some ⟨g,0,none⟩))) (hu:look env u=some d) (v:fU w g s cs) (ht:get ks n=some cs.size) (h:f (.tuple #[.agg cs,d]) w):
  T prog fn f (.code .ret::k) env w:=λa m=>by
 refine wp_ret (mM (show bodyPost prog fn (R7 f) .ret a w from⟨m.1,.tuple #[.agg cs,d],?_,_,rfl,h⟩) k);have x:a.tmps[t]?.getD undef= .pointer (some ⟨g,0,none⟩):=by rw[m.2.2 t _ C];rfl
 have B:a.tmps[u]?.getD undef=d:=by rw[m.2.2 u _ hu];rfl
 simp[results,y,x,B,asAddr,I8 v ht]
def BM (l:List Int):List (Int×Int):=l.zipIdx.map λp=>(p.1,(p.2:Int))
theorem On (k:Int):∀(l:List Int) (n:Nat),A2 k ((l.zipIdx n).map λp=>(p.1,(p.2:Int)))=if k∈l then some ((n+l.idxOf k:Nat):Int)else none
 |[],n=>by simp[A2]
 | x::l,n=>by
  rw[F9,jm,A2]
  by_cases h:x=k
  ·subst h;simp
  ·have a:¬k=x:=λe=>h e.symm
   rw[if_neg h,On k l (n+1)]
   grind
theorem AM (k:Int) (l:List Int):A2 k (BM l)=if k∈l then some (l.idxOf k:Int)else none:=by
 grind [On,BM]
theorem I3 (l:List Int) (k:Int):BM (l++[k])=BM l++[(k,(l.length:Int))]:=by
 simp[BM,List.zipIdx_append]
end
section
def gD (w:World) (B:Nat) (e:TypeId) (z:Nat) (v:Value) (n:Nat) (vs:List Value):Prop:=w.ownsRow B e z v n vs
section
variable {w w':World} {B:Nat} {e:TypeId} {z n:Nat} {v:Value} {vs:List Value}
theorem gD.len (h:gD w B e z v n vs):vs.length=n*z:=h.1
theorem gD.row (h:gD w B e z v n vs):Row w v n vs:=by
 obtain⟨h1,d⟩:=h;rcases d with⟨rfl,x⟩|⟨g,cap,cur,rfl,C,a,f,m,y,s⟩
 ·rw[x];exact⟨none,0,rfl,gJ _,by unfold maxLen;omega,λa=>absurd a fy⟩
 ·have fW:g<w.heap.size:=fU.lt (t:=e) (cs:=cur) a;refine⟨some ⟨g,0,none⟩,cap,rfl,f,m,λ_=>⟨g,0,rfl,fW,λj u hu=>?_⟩⟩;rw[iC];have:=fU.cell (t:=e) (cs:=cur) a j;rw[this];have D:j<vs.length:=(j0.1 hu).1;rw[←s,FN fy]at hu;simpa using hu
theorem gD.nil (w:World) (B:Nat) (e:TypeId) (z:Nat):gD w B e z (.slice none 0 0) 0 []:=World.ownsRow_nil w B e z
theorem gD.fr {S:Nat->Prop} (h:gD w B e z v n vs) (f:Fr S w w') (d:∀b,v.ownBlock=some b->¬S b):gD w' B e z v n vs:=by
 obtain⟨h1,a⟩:=h;refine⟨h1,?_⟩;rcases a with a|⟨g,cap,cur,rfl,m,s,r⟩
 ·exact .inl a
 ·exact .inr ⟨g,cap,cur,rfl,m,fU.fr (t:=e) (cs:=cur) s f (d g fx),r⟩
theorem gD.ext (h:gD w B e z v n vs) (a:Ext w w'):gD w' B e z v n vs:=h.fr a λ_ _ d=>d
theorem gD.gH (h:gD w B e z v n vs) {b:Nat} (a:v.ownBlock=some b):B<=b/\b<w.heap.size:=World.ownsRow.lt h b a
theorem gD.mono {d:Nat} (h:gD w B e z v n vs) (f:d<=B):gD w d e z v n vs:=by
 obtain⟨h1,a⟩:=h;refine⟨h1,?_⟩;rcases a with a|⟨g,cap,cur,rfl,m,r⟩
 ·exact .inl a
 ·exact .inr ⟨g,cap,cur,rfl,fy,r⟩
theorem gD.form (h:gD w B e z v n vs):∃A c,v= .slice A n c/\n<=c/\c<=9223372036854775807:=by
 obtain⟨A,c,h1,a,d,_⟩:=h.row;exact⟨A,c,h1,a,d⟩
theorem gD.go (h:gD w B e z v n vs) (h0:0<n):∃g c,v= .slice (some ⟨g,0,none⟩) n c/\B<=g/\g<w.heap.size/\n<=c/\c<=9223372036854775807/\∀j u,vs[j]? =some u->w.cell? ⟨g,j,none⟩=some u:=by
 obtain⟨A,c,rfl,h1,m,t⟩:=h.row;obtain⟨b,o,rfl,x,hc⟩:=t h0;obtain⟨_,s⟩:=h;rcases s with⟨a,_⟩|⟨g,cap,cur,a,y,C,r⟩
 ·cases a
 ·injection a with a _ d
  injection a with a
  injection a with a f
  subst a;subst d;subst f;exact⟨b,c,rfl,y,x,h1,m,λj u hu=>by have:=hc j u hu;rwa[iC]at this⟩
end
theorem EU {P:Program} {w:World} {b o:Nat}:∀(n i:Nat) (acc:Array Value) (cs:List Value),cs.length=n->(∀j u,cs[j]? =some u->w.cell? ⟨b,o+(i+j),none⟩=some u)->
  (loadCellsFrom ⟨b,o,none⟩ i n acc).run P w= .ok (acc++cs.toArray) w
 |0,i,acc,cs,a,_=>by
  obtain rfl:cs=[]:=zf a;simp[loadCellsFrom]
 |n+1,i,acc,[],a,_=>by simp at a
 | n+1,i,acc,c::cs,a,h=>by
  have h0:w.cell? ⟨b,o+i,none⟩=some c:=by simpa using h 0 c rfl
  have f:=EU (P:=P) (w:=w) (b:=b) (o:=o) n (i+1) (acc.push c) cs (by simpa using a) (λj u hu=>by
   have:=h (j+1) u (by simpa using hu)
   rwa[show i+(j+1)=i+1+j from by omega]at this)
  have d:(load (Addr.add ⟨b,o,none⟩ i)).run P w= .ok c w:=by
   rw[nf];simp[load,Sem.run,h0]
  simp only[loadCellsFrom,sD,d,sM,f];simp
theorem IN {t:TypeId} {b:Nat} {cs:List Value} (ht:get ks t=some cs.length) (h:∀j u,cs[j]? =some u->w.cell? ⟨b,o+j,none⟩=some u):(loadVar t ⟨b,o,none⟩).run prog w= .ok (.agg cs.toArray) w:=by
 have g:=EU (P:=prog) (w:=w) (b:=b) (o:=o) cs.length 0 #[] cs rfl (λj u hu=>by rw[iC];exact h j u hu);obtain⟨h1,i,a,d⟩:=kD ht
 have f:(isAgg t).run prog w= .ok true w:=by
  unfold isAgg;rcases h1 with⟨fs,h1⟩|⟨m,e,h1⟩<;>simp[run_underlying h1]
 have n:(sizeOf t).run prog w= .ok cs.length w:=by simp[sizeOf,typeInfo,a,d]
 unfold loadVar;simp only[sD,f,sM,if_true,n];unfold loadCells;simp[g]
variable {hs:List Nat} {H:World->Prop} {full:Array Oper} {K:Env->World->Prop} {rest:List Oper} {env:Env} {w:World} {d:Tmp} {dst:Option Tmp} {ty:TypeId} {pos:String} {af:Array Edge}
theorem hL {t:TypeId} {b:Nat} {cs:List Value} (a:gh env x=some (.pointer (some ⟨b,o,none⟩))) (ht:get ks t=some cs.length) (hc:∀j u,cs[j]? =some u->w.cell? ⟨b,o+j,none⟩=some u)
  (h:xs prog fD fC hs H full K rest ((d,.agg cs.toArray)::env) w) (hm:nK hs (some d)=false:=by rfl):xs prog fD fC hs H full K (⟨some d,.load t x,ty,pos,af,none⟩::rest) env w:=by
 refine gR fx (by simp[fX,Op.operands,a]) ?_;have f:iT fD fC hs ⟨some d,.load t x,ty,pos,af,none⟩= .r:=by simp[iT,cls,hm]
 rw[f];exact⟨.agg cs.toArray,by simp[execOp,fM a,Instr.loadAt,Instr.sureAddr,IN ht hc],h⟩
theorem wZ {t:TypeId} {b:Nat} {cs:List Value} (a:gh env x=some (.pointer (some ⟨b,o,none⟩))) (ht:get ks t=some cs.length) (hc:∀w',H w'->∀j u,cs[j]? =some u->w'.cell? ⟨b,o+j,none⟩=some u)
  (h:xs prog fD fC hs H full K rest ((d,.agg cs.toArray)::env) w) (hm:nK hs (some d)=true:=by rfl):xs prog fD fC hs H full K (⟨some d,.load t x,ty,pos,af,none⟩::rest) env w:=by
 refine gR fx (by simp[fX,Op.operands,a]) ?_;have f:iT fD fC hs ⟨some d,.load t x,ty,pos,af,none⟩= .h:=by simp[iT,cls,hm]
 rw[f];exact⟨.agg cs.toArray,λw' g=>by simp[execOp,fM a,Instr.loadAt,Instr.sureAddr,IN ht (hc w' g)],h⟩
theorem gF {t:TypeId} {b n:Nat} (j q:Nat) (g:gh env x=some (.slice (some ⟨b,o,none⟩) n c)) (hi:gh env i=some (.int k a)) (m:es t=some z) (f:a=j) (hq:o+j*z=q) (h1:j<n)
  (h:xs prog fD fC hs H full K rest ((d,.pointer (some ⟨b,q,none⟩))::env) w):xs prog fD fC hs H full K (⟨some d,.indexAddr t x i,ty,pos,af,none⟩::rest) env w:=by
 subst f;subst hq;exact xix g hi m fy fy (by rw[jf];exact h)
theorem jI {t:TypeId} {z:Value} {size B m n:Nat} {s:Operand} {news:List Value} (O:xv t e z size bytes) (ab:z.cells.size=size) (Z:0<size) (E:gh env s=some v) (y:gD w B e size v n vs) (F:gh env x=some (.slice A m c))
  (X:Row w (.slice A m c) m news) (U:news.length=m*size) (h1:∀u∈news,u.oneCell'=true) (M:n+m<=maxLen) (S:(n+m)*bytes<=140737488355328) (Q:B<=w.heap.size)
  (h:∀a w',gD w' B e size a (n+m) (vs++news)->Fr (λb=>v.ownBlock=some b) w w'->(a.ownBlock=v.ownBlock∨a.ownBlock=some w.heap.size)->xs prog fD fC hs H full K rest ((d,a)::env) w') (hH:∀w',Fr (λb=>v.ownBlock=some b) w w'->H w':=by intros;trivial):
  xs prog fD fC hs H full K (⟨some d,.call {callee:= .builtin .append,args:=⟨[s,x]⟩,argTypes:=⟨[t,t]⟩},ty,pos,af,none⟩::rest) env w:=by
 obtain⟨hu,i,hi,aa,Y,R⟩:=O
 have key:∃a w',(Builtin.append_ #[t,t] ty #[v,.slice A m c]).run prog w= .ok a w'/\w'.ownsRow B e size a (n+m) (vs++news)/\w.grownBy w' v.ownBlock/\(a.ownBlock=v.ownBlock∨a.ownBlock=some w.heap.size):=by
  rcases xE m with h0|h0
  ·subst h0;have V:news=[]:=zf fy;subst V;refine⟨v,w,?_,by unfold gD at y;simpa using y,World.grownBy.refl w _,.inl fx⟩;rcases y.2 with⟨rfl,aj⟩|⟨g,cap,cur,rfl,_,_,W,_⟩
   ·cases A<;>simp[Builtin.append_,run_underlying hu,sizeOf,typeInfo,hi,Builtin.lenOf,Builtin.firstCells,loadCells,loadCellsFrom]
   ·cases A<;>simp[Builtin.append_,run_underlying hu,sizeOf,typeInfo,hi,Builtin.lenOf,Builtin.firstCells,W,storeCells,loadCells,loadCellsFrom]
  ·obtain⟨ad,ae,he,ai,ah,N⟩:=X;injection he with G _ I
   subst G;subst I;obtain⟨b,o,rfl,ag,T⟩:=N h0;obtain⟨a,w',D,C,f,_,L⟩:=run_append_own_at (P:=prog) w B t ty e i z size bytes hu hi aa Y R ab Z v n vs y ⟨b,o,none⟩ m c news U (λj u hu=>by rw[nf];exact T j u hu) h1 M S Q;exact⟨a,w',D,C,f,L⟩
 obtain⟨a,w',D,C,f,J⟩:=key;refine xw (by simp[fX,Op.operands,Call.operands,E,F]) fx (v:=a) (w':=w') ?_ (h a w' C (Fr.grown f λk hk _=>hk) J) (hH _ (Fr.grown f λk hk _=>hk));simp[execOp,resolve,invoke,builtin,fM E,fM F,D]
theorem aed {t:TypeId} {z:Value} {size:Nat} (f:xv t e z size bytes)
  (h:∀w',gD w' w.heap.size e size (.slice (some ⟨w.heap.size,0,none⟩) 0 0) 0 []->Ext w w'->w'.heap.size=w.heap.size+1->xs prog fD fC hs H full K rest ((d,.slice (some ⟨w.heap.size,0,none⟩) 0 0)::env) w') (hH:∀w',Ext w w'->H w':=by intros;trivial):
  xs prog fD fC hs H full K (⟨some d,.buildSlice t 0 #[],ty,pos,af,none⟩::rest) env w:=by
 obtain⟨hu,i,hi,m,hs,g⟩:=f;have a:=fU.new w e #[];refine xw (by simp[fX,Op.operands]) fx (v:= .slice (some ⟨w.heap.size,0,none⟩) 0 0) (w':=w.alloc (.cells #[] e)) ?_ (h _ ⟨by simp,.inr ⟨_,0,#[],rfl,gJ _,a,gJ _,iy _,by simp,by simp⟩⟩ (Fr.alloc _ _ _) ir) (hH _ (Fr.alloc _ _ _));simp[execOp,Instr.buildSlice,run_underlying hu,sizeOf,typeInfo,hi,Instr.fill,newRow];have:Array.map (λ_:Nat=>(default:Value)) (Array.range 0)= #[]:=by simp
 first|rw[this]|simp
theorem Ps {size:Nat} {init:Array Value} (m:cs.size=size) (h0:0<size) (hi:init.size=size):Instr.fill (λi=>some (i*size,size)) init [(0,Value.agg cs)]=some cs:=by
 obtain⟨r,a,t,hk⟩:=Great.fill_dense (s:=size) h0 [.agg cs] 0 init (λv n=>by rw[kl.1 n];exact m) (by rw[hi];simp);have d:(([Value.agg cs].zipIdx 0).map λx=>(x.2,x.1))=[(0,Value.agg cs)]:=rfl;rw[d]at a;rw[a]
 congr 1
 apply VE;intro k;rw[hk k]
 by_cases fW:k<size
 ·rw[if_pos (by simp;omega)];have f:k/size=0:=Ll fW;have g:k% size=k:=ud fW;simp[f,g,Value.cells]
 ·rw[if_neg (by simp;omega),Ds fy,Ds fy]
theorem nY {t:TypeId} {z:Value} {size:Nat} (g:xv t e z size bytes) (f:gh env x=some (.agg cs)) (m:cs.size=size) (h0:0<size) (y:size<=10000)
  (h:∀w',fU w' w.heap.size e cs->Ext w w'->w'.heap.size=w.heap.size+1->xs prog fD fC hs H full K rest ((d,.slice (some ⟨w.heap.size,0,none⟩) 1 1)::env) w') (hH:∀w',Ext w w'->H w':=by intros;trivial):
  xs prog fD fC hs H full K (⟨some d,.buildSlice t 1 #[(0,x)],ty,pos,af,none⟩::rest) env w:=by
 obtain⟨hu,i,hi,s,a,u⟩:=g;refine xw (by simp[fX,Op.operands,f]) fx (v:= .slice (some ⟨w.heap.size,0,none⟩) 1 1) (w':=w.alloc (.cells cs e)) ?_ (h _ (fU.new _ _ _) (Fr.alloc _ _ _) ir) (hH _ (Fr.alloc _ _ _))
 have n:=run_buildSlice (P:=prog) w t e 1 #[(0,.agg cs)] cs i z hu hi s (by rw[a];omega) (by rw[a];omega) (by
  rw[a];exact Ps m h0 ir)
 simp[execOp,fM f,n]
end
section
open Go Ieee
def fw (n:Nat):Nat:=FloatKind.f64.nearest (n:Int)
theorem Eg:fw 0=0:=by decide+kernel
theorem L0 {n:Nat} (h0:0<n):2^n.log2<=n/\n<2^(n.log2+1):=⟨Nat.log2_self_le fy,Nat.lt_log2_self⟩
theorem OY {n:Nat} (h0:0<n) (w:n<2^52):fw n=(n.log2+1022)*2^52+n*2^(52-n.log2):=by
 have C:n.log2<52:=(Nat.log2_lt fy).2 w;obtain⟨h1,m⟩:=L0 h0
 have a:(max ((0:Int)+n.log2-(52:Nat)) Ieee.double.leastPlace)=(n.log2:Int)-52:=by
  have:Ieee.double.leastPlace= -1074:=by decide+kernel
  rw[this];omega
 unfold fw FloatKind.nearest FloatKind.encode FloatKind.format Format.write;dsimp only;unfold Format.nearest;have x:¬((n:Int).natAbs=0):=fy;rw[if_neg x];have y:(n:Int).natAbs=n:=fy;have B:(decide ((n:Int)<0))=false:=by simp
 rw[y,B];have t:Ieee.double.fractionBits=52:=rfl;rw[t,a];have v:Ieee.double.leastPlace= -1074:=by decide+kernel
 rw[v];dsimp only;have d:((0:Int)-((n.log2:Int)-52)).toNat=52-n.log2:=fy;have f:((n.log2:Int)-52-0).toNat=0:=fy;rw[d,f]
 have g:Toward.even.cut false (n<<<(52-n.log2)) 0=n*2^(52-n.log2):=by
  unfold Toward.cut;simp[BH,Nat.mod_one]
 rw[g];have e4:((n.log2:Int)-52- -1074).toNat=n.log2+1022:=fy;rw[e4];have s:Ieee.double.binade=2^52:=rfl;have u:Ieee.double.infRung=2047*2^52:=by decide+kernel
 rw[s,u]
 have hk:n*2^(52-n.log2)<2^53:=by
  calc n*2^(52-n.log2)<2^(n.log2+1)*2^(52-n.log2):=Ku m (zW _)
   _=2^53:=by rw[←Gj];congr 1;omega
 unfold Format.word;rw[if_neg fV];rw[uk];omega
theorem EA {n:Nat} (a:n<2^52):∃m k:Nat,FloatKind.f64.decode (fw n)= .number false m (-(k:Int))/\m=n*2^k:=by
 by_cases h0:n=0
 ·subst h0;obtain⟨k,hk⟩:∃k:Nat,k=1074:=⟨_,rfl⟩;exact⟨0,k,by rw[hk];decide+kernel,(td _).symm⟩
 ·have h0:0<n:=fy;have u:n.log2<52:=(Nat.log2_lt fy).2 a;obtain⟨h1,t⟩:=L0 h0
  have y:2^52<=n*2^(52-n.log2):=by
   calc 2^52=2^n.log2*2^(52-n.log2):=by rw[←Gj];congr 1;omega
    _<=_:=qk _ h1
  have hk:n*2^(52-n.log2)<2^53:=by
   calc n*2^(52-n.log2)<2^(n.log2+1)*2^(52-n.log2):=Ku t (zW _)
    _=2^53:=by rw[←Gj];congr 1;omega
  refine⟨n*2^(52-n.log2),52-n.log2,?_,rfl⟩;rw[OY h0 a];obtain⟨L,v⟩:∃L,L=n.log2:=⟨_,rfl⟩;obtain⟨m,hm⟩:∃m,m=n*2^(52-n.log2):=⟨_,rfl⟩;rw[←hm]at y hk⊢;rw[←v]at u⊢;have B:Ieee.double.leastPlace= -1074:=by decide+kernel
  have x:Ieee.double.infRung=2047*2^52:=by decide+kernel
  have E:Ieee.double.signWeight=2^63:=by decide+kernel
  have w:Ieee.double.binade=2^52:=rfl;show Ieee.double.read _=_
  unfold Format.read;rw[B,x,E,w];dsimp only;have d:(L+1022)*2^52+m<2^63:=fy;have C:((L+1022)*2^52+m)% 2^63=(L+1022)*2^52+m:=ud d;have D:((L+1022)*2^52+m)/2^63=0:=Ll d;rw[C,D];rw[if_neg (show ¬(L+1022)*2^52+m<2^52 by omega),if_pos (show(L+1022)*2^52+m<2047*2^52 by omega)];have f:((L+1022)*2^52+m)% 2^52=m-2^52:=fy;have g:((L+1022)*2^52+m)/2^52=L+1023:=fy;rw[f,g];have s:(-1074+((L+1023-1:Nat):Int))= -((52-L:Nat):Int):=fy;have e4:2^52+(m-2^52)=m:=fy;rw[s,e4];rfl
theorem Pz {n:Nat} (s:n<2^52):(FloatKind.f64.decode (fw n)).toInt .zero=some (n:Int):=by
 obtain⟨m,k,h1,g⟩:=EA s;rw[h1];unfold Datum.toInt Datum.integral;dsimp only;have a:(-(k:Int)).toNat=0:=fy;have d:(- -(k:Int)).toNat=k:=fy;rw[a,d,Nat.shiftLeft_zero]
 have f:Toward.zero.cut false m k=n:=by
  unfold Toward.cut;dsimp only;rw[g]
  by_cases h0:n=0
  ·subst h0;simp
  ·have t:(n*2^k).log2≥k:=by
    have:=Nat.log2_self_le (n:=n*2^k) (by have:=zW k;exact Nat.mul_ne_zero h0 fy);rw[ge_iff_le,Nat.le_log2 (by have:=zW k;exact Nat.mul_ne_zero h0 fy)];exact Nat.le_mul_of_pos_left _ fy
   rw[uk fy,BH,Nat.one_mul,Nat.mul_div_cancel _ (zW k)];rfl
 rw[f];simp[signed]
theorem zl {a b:Nat} (w:a<2^52) (x:b<2^52):FloatKind.f64.format.order (fw a) (fw b)=some (compare a b):=by
 obtain⟨m,i,h1,t⟩:=EA w;obtain⟨n,j,u,v⟩:=EA x;show(FloatKind.f64.decode (fw a)).order (FloatKind.f64.decode (fw b))=_
 rw[h1,u];unfold Datum.order;dsimp only;have f:(-(i:Int)-min (-(i:Int)) (-(j:Int))).toNat=max i j-i:=fy;have g:(-(j:Int)-min (-(i:Int)) (-(j:Int))).toNat=max i j-j:=fy;rw[f,g]
 have s:signed false m (max i j-i)=((a*2^max i j:Nat):Int):=by
  simp only[signed,EW,if_false,BH,t,Nat.mul_assoc,←Gj]
  congr 3;omega
 have e4:signed false n (max i j-j)=((b*2^max i j:Nat):Int):=by
  simp only[signed,EW,if_false,BH,v,Nat.mul_assoc,←Gj]
  congr 3;omega
 rw[s,e4]
 congr 1
 have d:=zW (max i j);obtain⟨p,y⟩:∃p,p=2^max i j:=⟨_,rfl⟩;rw[←y]at d⊢;rcases zy a b with h|h|h
 ·rw[(BQ).2 h];have:=Ku h d;exact Int.compare_eq_lt.2 (by exact_mod_cast this)
 ·subst h;simp
 ·rw[(Ch).2 h];have:=Ku h d;exact Int.compare_eq_gt.2 (by exact_mod_cast this)
end
section
abbrev fQ:=List UInt8
def su (l:fQ):ByteArray:=⟨l.toArray⟩
theorem jj (l:fQ):(su l).toList=l:=by
 rw[ByteArray.toList_eq];simp[su]
theorem ko (l:fQ):(su l).size=l.length:=by show l.toArray.size=_;simp
theorem W9 {a b:fQ} (h:su a=su b):a=b:=by
 have:=congrArg ByteArray.toList h;rwa[jj,jj]at this
theorem V1 (b:ByteArray):∃l,b=su l:=⟨b.data.toList,by apply ByteArray.ext;simp[su]⟩
theorem WS (a b:fQ):su a++su b=su (a++b):=by
 apply ByteArray.ext;simp[su]
theorem vP (zs:fQ) (l h:Nat):(su zs).extract l h=su ((zs.drop l).take (h-l)):=by
 unfold su;rw[ByteArray.extract_mk]
 try simp
section
variable {hs:List Nat} {H:World->Prop} {full:Array Oper} {K:Env->World->Prop} {rest:List Oper} {env:Env} {w:World} {d:Tmp} {ty:TypeId} {pos:String} {af:Array Edge}
theorem iH {t:TypeId} {l:fQ} (a:gh env x=some (.string (su l))) (ht:fC t=true) (h:xs prog fD fC hs H full K rest ((d,.int .i64 (l.length:Int))::env) w):
  xs prog fD fC hs H full K (⟨some d,.call {callee:= .builtin .len,args:=⟨[x]⟩,argTypes:=⟨[t]⟩},ty,pos,af,none⟩::rest) env w:=
 Ic a (by simp[lnV,ht,ko]) h
theorem iu {t:TypeId} {c:UInt8} (a:gh env x=some (.string (su [c]))) (ht:fC t=true) (h:xs prog fD fC hs H full K rest ((d,.int .i64 1)::env) w):
  xs prog fD fC hs H full K (⟨some d,.call {callee:= .builtin .len,args:=⟨[x]⟩,argTypes:=⟨[t]⟩},ty,pos,af,none⟩::rest) env w:=iH a ht h
theorem rm {t:TypeId} {a b:fQ} (g:gh env x=some (.string (su a))) (m:gh env y=some (.string (su b))) (s:a.length+b.length<=9223372036854775807)
  (h:xs prog fD fC hs H full K rest ((d,.string (su (a++b)))::env) w):xs prog fD fC hs H full K (⟨some d,.binOp .add t x y n,ty,pos,af,none⟩::rest) env w:=by
 refine jA g m (eqGuard_at_string ..) (λw'=>?_) h;rw[binOp_string_add]
 have f:¬(((su a).size+(su b).size:Nat):Int)>IntKind.i64.max:=by
  rw[ko,ko];simp[IntKind.max,IntKind.signed,IntKind.bits];omega
 simp only[Op.stringOp,if_neg f,WS];rfl
def hZ (op:BinOp) (a b:fQ):Option Bool:=match op with
 | .eql=>some (decide (a=b))
 | .neq=>some (!decide (a=b))
 | .lss=>some (Op.bytesLess a b)
 | .leq=>some (Op.bytesLess a b||decide (a=b))
 | .gtr=>some (!(Op.bytesLess a b||decide (a=b)))
 | .geq=>some (!Op.bytesLess a b)
 |_=>none
theorem nP (a b:fQ):(a==b)=decide (a=b):=by
 by_cases h:a=b
 ·simp[h]
 ·simp[h]
theorem gq {op:BinOp} {t:TypeId} {a b:fQ} {r:Bool} (g:gh env x=some (.string (su a))) (m:gh env y=some (.string (su b))) (f:hZ op a b=some r)
  (h:xs prog fD fC hs H full K rest ((d,.bool r)::env) w):xs prog fD fC hs H full K (⟨some d,.binOp op t x y n,ty,pos,af,none⟩::rest) env w:=by
 refine jA g m (eqGuard_at_string ..) (λw'=>?_) h;unfold hZ at f;split at f<;>first|(injection f with f;subst f;first|(rw[binOp_string_eql,jj,jj,nP];try rfl)|(rw[binOp_string_neq,jj,jj,nP];try rfl)|(rw[binOp_string_lss,jj,jj];try rfl)|(rw[binOp_string_leq,jj,jj,nP];try rfl)|(rw[binOp_string_gtr,jj,jj,nP];try rfl)|(rw[binOp_string_geq,jj,jj];try rfl))|cases f
theorem LP {t:TypeId} {n:IntKind} {zs:fQ} {jl m:Int} (l h:Nat) (ht:fC t=true) (g:gh env x=some (.string (su zs))) (f:gh env lo=some (.int k jl)) (a:gh env hi=some (.int n m)) (el:jl=l) (s:m=h) (h1:l<=h) (u:h<=zs.length)
  (hc:xs prog fD fC hs H full K rest ((d,.string (su ((zs.drop l).take (h-l))))::env) w):
  xs prog fD fC hs H full K (⟨some d,.slice t x (some lo) (some hi) none,ty,pos,af,none⟩::rest) env w:=by
 subst el;subst s;refine gR fx (by simp[fX,Op.operands,g,f,a]) ⟨_,λw'=>?_,hc⟩;have:=run_slice_string (P:=prog) w' t (su zs) k n l h (hR ht) fy fy (by rw[ko];omega);rw[jf,jf,vP]at this;simp[execOp,fM g,fM f,fM a,run_sliceAt_string w' t _ _ _ _ (hR ht),this]
theorem UU {t:TypeId} {zs:fQ} {jl:Int} (l:Nat) (ht:fC t=true) (f:gh env x=some (.string (su zs))) (a:gh env lo=some (.int k jl)) (el:jl=l) (h1:l<=zs.length)
  (hc:xs prog fD fC hs H full K rest ((d,.string (su (zs.drop l)))::env) w):
  xs prog fD fC hs H full K (⟨some d,.slice t x (some lo) none none,ty,pos,af,none⟩::rest) env w:=by
 subst el;refine gR fx (by simp[fX,Op.operands,f,a]) ⟨_,λw'=>?_,hc⟩;have:=run_slice_string_l (P:=prog) w' t (su zs) (hR ht) k l fy (by rw[ko];omega);rw[jf,ko,vP,pG (by rw[lH];omega)]at this;simp[execOp,fM f,fM a,run_sliceAt_string w' t _ _ _ _ (hR ht),this]
theorem B1 {t:TypeId} {m:IntKind} {zs:fQ} {g:Int} (h:Nat) (ht:fC t=true) (f:gh env x=some (.string (su zs))) (a:gh env hi=some (.int m g)) (n:g=h) (s:h<=zs.length)
  (hc:xs prog fD fC hs H full K rest ((d,.string (su (zs.take h)))::env) w):
  xs prog fD fC hs H full K (⟨some d,.slice t x none (some hi) none,ty,pos,af,none⟩::rest) env w:=by
 subst n;refine gR fx (by simp[fX,Op.operands,f,a]) ⟨_,λw'=>?_,hc⟩;have:=run_slice_string_h (P:=prog) w' t (su zs) (hR ht) m h fy (by rw[ko];omega);rw[jf,vP,vU,Lc]at this;simp[execOp,fM f,fM a,run_sliceAt_string w' t _ _ _ _ (hR ht),this]
theorem Xt {P:Program} {w:World} {t:TypeId} {zs:fQ} {z:UInt8} (ht:P.underlying t=some .string) (a:zs[j]? =some z):(Instr.index t (.string (su zs)) (.int k (j:Int))).run P w= .ok (.int .u8 (z.toNat:Int)) w:=by
 have fW:j<zs.length:=(j0.1 a).1;have g:=ko zs
 have d:∀(i:Nat),i=j->∀(h:i<(su zs).size),(su zs)[i]'h=z:=by
  rintro i rfl h;have:(su zs)[i]=(su zs).data[i]'h:=rfl;rw[this];have f:zs[i]=z:=jk ((kp fW).symm.trans a);simp only[su,List.getElem_toArray];exact f
 rw[run_index_string w t (su zs) k (j:Int) ht,dif_pos ⟨fy,by omega⟩,d _ fy]
theorem Sn {t:TypeId} {zs:fQ} {f:Int} {z:UInt8} (j:Nat) (ht:fC t=true) (a:gh env x=some (.string (su zs))) (hi:gh env i=some (.int k f)) (g:f=j) (n:zs[j]? =some z)
  (h:xs prog fD fC hs H full K rest ((d,.int .u8 (z.toNat:Int))::env) w):xs prog fD fC hs H full K (⟨some d,.index t x i,ty,pos,af,none⟩::rest) env w:=by
 subst g;refine gR fx (by simp[fX,Op.operands,a,hi]) ⟨_,λw'=>?_,h⟩;have m:=Xt (P:=prog) (w:=w') (t:=t) (k:=k) (hR ht) n;simp[execOp,fM a,fM hi,m]
end
end
section
def h6:fQ->fQ×fQ×Bool
 |[]=>([],[],false)
 |c::r=>if c=47 then([],r,true)else(c::(h6 r).1,(h6 r).2.1,(h6 r).2.2)
def hg:fQ->List fQ
 |[]=>[[]]
 |c::r=>if c=47 then[]::hg r else match hg r with
  |h::t=>(c::h)::t
  |[]=>[[c]]
theorem qY:∀s:fQ,(h6 s).2.2=true->(h6 s).1.length+1+(h6 s).2.1.length=s.length
 |[],h=>by cases h
 | c::r,h=>by
  by_cases hc:c=47
  ·grind [h6]
  ·simp only[h6,if_neg hc]at h⊢;have:=qY r h
   grind
theorem yi:∀s:fQ,(h6 s).2.2=false->(h6 s).1=s/\(h6 s).2.1=[]
 |[],_=>⟨rfl,rfl⟩
 | c::r,h=>by
  by_cases hc:c=47
  ·grind [h6]
  ·simp only[h6,if_neg hc]at h⊢;obtain⟨h1,a⟩:=yi r h
   grind
theorem zQ:∀s:fQ,(h6 s).2.2=true->s=(h6 s).1++47::(h6 s).2.1
 |[],h=>by cases h
 | c::r,h=>by
  by_cases hc:c=47
  ·simp[h6,hc]
  ·simp only[h6,if_neg hc]at h⊢;have:=zQ r h
   grind
theorem kK:∀s:fQ,hg s≠[]
 |[]=>by simp[hg]
 |c::r=>by
  grind [hg]
theorem vg:∀s:fQ,hg s=(h6 s).1::(if(h6 s).2.2 then hg (h6 s).2.1 else[])
 |[]=>rfl
 | c::r=>by
  by_cases hc:c=47
  ·grind [hg,h6]
  ·rw[hg,if_neg hc,vg r]
   grind [h6]
theorem u9:∀(s x:fQ),x∈hg s->(47:UInt8)∉x
 |[],x,h=>by grind [hg]
 | c::r,x,h=>by
  by_cases hc:c=47
  ·rw[hg,if_pos hc]at h;rcases hX.1 h with rfl|h
   ·simp
   ·exact u9 r x h
  ·rw[hg,if_neg hc]at h;split at h
   ·rename_i h0 t e;rcases hX.1 h with rfl|h
    ·rw[hX,not_or];exact⟨λe=>hc e.symm,u9 r _ (by rw[e];simp)⟩
    ·exact u9 r x (by rw[e];simp[h])
   grind
def je:List fQ->fQ
 |[]=>[]
 |[x]=>x
 |x::y::r=>x++47::je (y::r)
theorem zX (x:fQ) {l:List fQ} (h:l≠[]):je (x::l)=x++47::je l:=by
 cases l with
 |nil=>exact absurd rfl h
 |cons y r=>rfl
theorem Ao:∀s:fQ,je (hg s)=s
 |[]=>rfl
 | c::r=>by
  have a:=Ao r
  by_cases hc:c=47
  ·grind [hg,zX,kK]
  ·rw[hg,if_neg hc];split
   ·rename_i h0 t e;rw[e]at a;cases t<;>grind [je]
   grind [absurd,kK]
theorem yZ:∀(x r:fQ),(47:UInt8)∉x->hg (x++47::r)=x::hg r
 |[],r,_=>by grind [hg]
 |c::x,r,h=>by
  rw[hX,not_or]at h;rw[qp,hg,if_neg (λe=>h.1 e.symm),yZ x r h.2]
theorem x2:∀(x:fQ),(47:UInt8)∉x->hg x=[x]
 |[],_=>rfl
 |c::x,h=>by
  rw[hX,not_or]at h;rw[hg,if_neg (λe=>h.1 e.symm),x2 x h.2]
theorem Ag:∀l:List fQ,l≠[]->(∀x∈l,(47:UInt8)∉x)->hg (je l)=l
 |[],h,_=>absurd rfl h
 |[x],_,h=>x2 x (h x ir)
 |x::y::r,_,h=>by
  rw[je,yZ x _ (h x ir),Ag (y::r) ir fS]
def jM (s:fQ):Bool:=decide (1<=s.length)&&decide (s.length<=20)&&decide (s≠[46])&&decide (s≠[46,46])&&s.all λc=>decide (c≠47)&&decide (c≠0)
theorem BK {s:fQ} (h:jM s=true):1<=s.length/\s.length<=20:=by
 grind [jM]
theorem Ax {s:fQ} (h:jM s=true):s≠[]:=λe=>by subst e;exact absurd (BK h).1 ir
theorem Fl {s:fQ} (h:jM s=true):(47:UInt8)∉s:=by grind [jM,List.all_eq_true]
def gU (s:fQ):Bool:=decide (s=[])||((hg s).all jM&&decide (s.length<=100)&&decide ((hg s).length<=8))
theorem sd {s:fQ} (h:gU s=true) (h0:s≠[]):(∀x∈hg s,jM x=true)/\s.length<=100/\(hg s).length<=8:=by
 grind [gU,List.all_eq_true,absurd]
theorem lr {s:fQ} (h:gU s=true):s.length<=100:=by
 grind [sd]
def fZ (s:fQ):List fQ:=if s=[]then[]else if gU s then hg s else[]
theorem kx:fZ []=[]:=rfl
theorem ig {s:fQ} (h:gU s=true) (h0:s≠[]):fZ s=hg s:=by grind [fZ]
theorem nX {s:fQ} (h:gU s=false):fZ s=[]:=by
 grind [fZ]
theorem ky {s:fQ} (h:gU s=true):je (fZ s)=s:=by
 by_cases h0:s=[]
 ·subst h0;rfl
 grind [ig,Ao]
theorem Cu {a b:fQ} (d:gU a=true) (f:gU b=true) (h:fZ a=fZ b):a=b:=by grind [ky]
theorem ou {s x:fQ} (h:x∈fZ s):jM x=true:=by
 unfold fZ at h;split at h
 ·simp at h
 ·rename_i h0;split at h
  ·rename_i hm;exact(sd hm h0).1 x h
  ·simp at h
theorem rW (s:fQ):(fZ s).length<=8:=by
 unfold fZ;split
 ·simp
 ·rename_i h0;split<;>simp_all [sd]
theorem qa {s:fQ}:fZ s=[]↔s=[]∨gU s=false:=by
 constructor
 ·grind [gU,ig,absurd,kK]
 ·rintro(h|h)
  ·rw[h];rfl
  grind [nX]
def mO (s:fQ):fQ:=(fZ s).getLastD []
def oF (s:fQ):fQ:=je ((fZ s).dropLast)
def iL (s:fQ):Option fQ:=if fZ s=[]then none else some (oF s)
theorem pN:∀(l:List fQ) (x:fQ),l≠[]->je (l++[x])=je l++47::x
 |[],x,h=>absurd rfl h
 |[y],x,_=>rfl
 |y::z::r,x,_=>by
  rw[qp,qp,je,←qp,pN (z::r) x ir,je];simp
theorem HA {s:fQ} (h:fZ s≠[]):oF s=s.take (s.length-(mO s).length-1):=by
 have hm:gU s=true:=by
  cases hm:gU s with
  |true=>rfl
  |false=>grind [absurd,nX]
 have a:=ky hm;obtain⟨l,x,d⟩:∃l x,fZ s=l++[x]:=⟨_,_,(Lx h).symm⟩;unfold oF mO;rw[d]at a⊢;rw[BR];have f:(l++[x]).getLastD []=x:=by simp
 rw[f]
 by_cases h0:l=[]
 ·simp_all [je]
 grind [pN,je,List.length,List.take_left]
def EF (s top:fQ):Bool:=gU s&&gU top&&(decide (top=[])||decide (s=top)||(top++[47]).isPrefixOf s)
def iV:List fQ->List fQ->Bool
 |[],[]=>false
 |[],_::_=>true
 |_::_,[]=>false
 |x::a,y::b=>if x=y then iV a b else Op.bytesLess x y
def ie (a b:fQ):Bool:=iV (fZ a) (fZ b)
theorem ri:∀a:fQ,Op.bytesLess a a=false
 |[]=>rfl
 |x::r=>by simp[Op.bytesLess,ri r]
theorem tS:∀a b:fQ,a≠b->Op.bytesLess a b=true∨Op.bytesLess b a=true
 |[],[],h=>absurd rfl h
 |[],_::_,_=> .inl rfl
 |_::_,[],_=> .inr rfl
 | x::a,y::b,h=>by
  simp only[Op.bytesLess,tK,iO,decide_eq_true_eq,beq_iff_eq]
  by_cases e:x=y
  ·subst e;have:=tS a b fS
   grind
  grind
theorem ov:∀a b c:fQ,Op.bytesLess a b=true->Op.bytesLess b c=true->Op.bytesLess a c=true
 |[],[],_,h,_=>by cases h
 |[],_::_,[],_,h=>by cases h
 |[],_::_,_::_,_,_=>rfl
 |_::_,[],_,h,_=>by cases h
 |_::_,_::_,[],_,h=>by cases h
 | x::a,y::b,z::c,h,d=>by
  simp only[Op.bytesLess,tK,iO,decide_eq_true_eq,beq_iff_eq]at*;rcases h with h|⟨rfl,h⟩
  ·grind
  ·rcases d with d|⟨rfl,d⟩
   ·exact .inl d
   ·exact .inr ⟨rfl,ov a b c h d⟩
theorem sa:∀a,iV a a=false
 |[]=>rfl
 |x::a=>by rw[iV,if_pos rfl,sa a]
theorem wE:∀a b,a≠b->iV a b=true∨iV b a=true
 |[],[],h=>absurd rfl h
 |[],_::_,_=> .inl rfl
 |_::_,[],_=> .inr rfl
 |x::a,y::b,h=>by
  by_cases e:x=y
  ·subst e;rw[iV,if_pos rfl,iV,if_pos rfl];exact wE a b λe=>h (by rw[e])
  grind [iV,tS]
theorem Kw {a b:fQ} (h:Op.bytesLess a b=true):Op.bytesLess b a=false:=by
 grind [Op.bytesLess,ov,ri]
theorem lL:∀a b c,iV a b=true->iV b c=true->iV a c=true
 |[],[],_,h,_=>by cases h
 |[],_::_,[],_,h=>by cases h
 |[],_::_,_::_,_,_=>rfl
 |_::_,[],_,h,_=>by cases h
 |_::_,_::_,[],_,h=>by cases h
 | x::a,y::b,z::c,h,d=>by
  rw[iV]at h d⊢
  by_cases e:x=y
  ·subst e;rw[if_pos rfl]at h
   by_cases e':x=z
   ·subst e';rw[if_pos rfl]at d⊢;exact lL a b c h d
   grind
  grind [ov,ri]
theorem tN {a b:List fQ} (h:iV a b=true):iV b a=false:=by
 grind [iV,lL,sa]
end
section
structure xn where
 name:fQ
 value:fQ
deriving DecidableEq,Inhabited
structure Ac where
 kind:Int
 id:Int
 perm:Int
deriving DecidableEq,Inhabited
structure hJ where
 pos:Int
 data:fQ
deriving DecidableEq,Inhabited
structure Nd where
 kind:Int
 mode:Int
 uid:Int
 gid:Int
 time:Int
 attrs:List xn
 acl:List Ac
 size:Int
 data:List hJ
 target:fQ
 major:Int
 minor:Int
deriving DecidableEq,Inhabited
structure En where
 path:fQ
 node:Int
deriving DecidableEq,Inhabited
structure fY where
 es:List En
 ns:List Nd
deriving DecidableEq,Inhabited
def kQ {α:Type} (lt:α->α->Bool):Option α->List α->Bool
 |_,[]=>true
 |none,x::r=>kQ lt (some x) r
 |some p,x::r=>lt p x&&kQ lt (some x) r
def lk (a:Ac):Bool:=decide (1<=a.kind)&&decide (a.kind<=3)&&decide (0<=a.perm)&&decide (a.perm<=7)&&decide (0<=a.id)&&decide (a.id<=2147483647)&&(decide (a.kind≠3)||decide (a.id=0))
def acLt (a b:Ac):Bool:=decide (a.kind<b.kind)||(decide (a.kind=b.kind)&&decide (a.id<b.id))
def og (l:List Ac):Bool:=decide (l.length<=16)&&l.all lk&&kQ acLt none l&&(decide (l=[])||l.any λa=>decide (a.kind=3))
def jV (a:xn):Bool:=decide (1<=a.name.length)&&decide (a.name.length<=20)&&decide (a.value.length<=200)
def j8 (a b:xn):Bool:=Op.bytesLess a.name b.name
def uJ (n:Int):Bool:=decide (0<=n)&&decide (n<=2147483647)
def gT (n:Nd):Bool:=decide (0<=n.mode)&&decide (n.mode<=4095)&&uJ n.uid&&uJ n.gid&&decide (0<=n.time)&&decide (n.attrs.length<=8)&&n.attrs.all jV&&kQ j8 none n.attrs&&og n.acl
def fE:List hJ->Nat
 |[]=>0
 |p::r=>p.data.length+fE r
def jW (p:hJ):Bool:=decide (p.data≠[])&&decide (0<=p.pos)&&decide (p.pos<=1099511627776)
def w9 (size:Int):Int->List hJ->Bool
 |last,[]=>decide (last<=size)
 |last,p::r=>decide (last<p.pos)&&w9 size (p.pos+p.data.length) r
def jP (n:Nd):Bool:=decide (0<=n.size)&&decide (n.size<=1099511627776)&&decide (n.data.length<=16)&&n.data.all jW&&decide (fE n.data<=4000)&&w9 n.size (-1) n.data
def ib (n:Nd):Bool:=decide (n.size=0)&&decide (n.data=[])
def jq (n:Nd):Bool:=decide (n.target=[])
def jG (n:Nd):Bool:=decide (n.major=0)&&decide (n.minor=0)
def fH (n:Nd):Bool:=gT n&&
 (if n.kind=1∨n.kind=6 then ib n&&jq n&&jG n
  else if n.kind=2 then jP n&&jq n&&jG n
  else if n.kind=3 then ib n&&jG n&&decide (1<=n.target.length)&&decide (n.target.length<=200)&&n.target.all λc=>decide (c≠0)
  else if n.kind=4∨n.kind=5 then ib n&&jq n&&decide (0<=n.major)&&decide (n.major<=65535)&&decide (0<=n.minor)&&decide (n.minor<=65535)
  else false)
def fR:List En->fQ->Option Int
 |[],_=>none
 |e::r,p=>if e.path=p then some e.node else fR r p
def gf (ns:List Nd) (k:Int):Int:=(ns.getD k.toNat default).kind
def uD (ns:List Nd):Option fQ->Nat->List En->Bool
 |_,used,[]=>decide (used=ns.length)
 | prev,used,e::r=>gU e.path&&(match prev with|none=>decide (e.path=[])|some p=>ie p e.path)&&decide (0<=e.node)&&decide (e.node<=used)&&decide (e.node<ns.length)&&
   (if e.node<used then decide (gf ns e.node≠1)&&uD ns (some e.path) used r
    else fH (ns.getD used default)&&uD ns (some e.path) (used+1) r)
def rp (t:fY) (e:En):Bool:=match fR t.es (oF e.path)with
 |some k=>decide (gf t.ns k=1)
 |none=>false
def gQ (t:fY):Bool:=decide (1<=t.es.length)&&decide (t.es.length<=100)&&uD t.ns none 0 t.es&&decide (gf t.ns ((t.es.headD default).node)=1)&&(t.es.drop 1).all (rp t)
def ik:Option fQ->List En->Bool
 |_,[]=>true
 |prev,e::r=>gU e.path&&(match prev with|none=>decide (e.path=[])|some p=>ie p e.path)&&ik (some e.path) r
def jz (n:Nat):Nat->List En->Bool
 |_,[]=>true
 |used,e::r=>decide (0<=e.node)&&decide (e.node<=used)&&decide (e.node<n)&&jz n (if e.node<used then used else used+1) r
def kE:Nat->List En->Nat
 |used,[]=>used
 |used,e::r=>kE (if e.node<used then used else used+1) r
def j1 (i:Nat) (l:List En):Nat:=l.countP λe=>decide (e.node=(i:Int))
theorem DS:∀(l:List En) (u:Nat),u<=kE u l
 |[],_=>gJ _
 |e::r,u=>by
  rw[kE];split
  ·exact DS r u
  ·exact mn (KT u) (DS r (u+1))
theorem DR {n:Nat}:∀(l:List En) (u:Nat),u<=n->jz n u l=true->kE u l<=n
 |[],_,h,_=>h
 |e::r,u,h,d=>by
  simp only[jz,iO,decide_eq_true_eq]at d;rw[kE];obtain⟨⟨⟨h0,h1⟩,f⟩,a⟩:=d;split
  ·rename_i fW;rw[if_pos fW]at a;exact DR r u h a
  ·rename_i fW;rw[if_neg fW]at a;exact DR r (u+1) fy a
theorem rY {n:Nat}:∀(l:List En) (u i:Nat),jz n u l=true->u<=i->(0<j1 i l↔i<kE u l)
 |[],u,i,_,h=>by grind [j1,kE]
 | e::r,u,i,d,h=>by
  simp only[jz,iO,decide_eq_true_eq]at d;obtain⟨⟨⟨h0,h1⟩,g⟩,a⟩:=d;unfold j1;rw[kE,GJ]
  by_cases fW:e.node<u
  ·rw[if_pos fW]at a⊢;have f:¬e.node=(i:Int):=fy;have:=rY r u i a h
   grind [j1,decide_false,Bool.false_eq_true]
  ·rw[if_neg fW]at a⊢;have he:e.node=(u:Int):=fy;have m:=DS r (u+1)
   by_cases hi:i=u
   ·grind
   ·have f:¬e.node=(i:Int):=fy;have:=rY r (u+1) i a fy
    grind [j1,decide_false,Bool.false_eq_true]
theorem jB (ns:List Nd):∀(l:List En) (prev:Option fQ) (u:Nat),u<=ns.length->(uD ns prev u l=true↔
  ik prev l=true/\jz ns.length u l=true/\kE u l=ns.length/\(∀i,u<=i->i<ns.length->fH (ns.getD i default)=true)/\
  (∀i:Nat,i<ns.length->gf ns i=1->(i<u->j1 i l=0)/\(u<=i->j1 i l=1)))
 |[],prev,u,hu=>by
  grind [uD,ik,jz,kE,j1]
 | e ::r,prev,u,hu=>by
  simp only[uD,ik,jz,kE,iO,decide_eq_true_eq];have hc:∀i:Nat,j1 i (e::r)=j1 i r+if e.node=(i:Int)then 1 else 0:=by grind [j1]
  by_cases fW:e.node<u
  ·simp only[if_pos fW,iO,decide_eq_true_eq];have f:=jB ns r (some e.path) u hu;rw[f];constructor
   ·rintro⟨⟨⟨⟨⟨h1,a⟩,m⟩,n⟩,s⟩,t,d,x,v,g,w⟩;refine⟨⟨⟨h1,a⟩,d⟩,fS,v,g,λi hi hk=>?_⟩;rw[hc];have y:¬e.node=(i:Int):=fS
    grind
   ·rintro⟨⟨⟨h1,a⟩,d⟩,⟨⟨⟨m,n⟩,s⟩,x⟩,v,g,w⟩
    have t:gf ns e.node≠1:=λhk=>by
     have:=(w e.node.toNat fy (by rw[show((e.node.toNat:Nat):Int)=e.node from by omega];exact hk)).1 fy;rw[hc,if_pos fy]at this;omega
    refine⟨fS,t,d,x,v,g,λi hi hk=>?_⟩;have y:¬e.node=(i:Int):=fS
    grind
  ·simp only[if_neg fW,iO];constructor
   ·rintro⟨⟨⟨⟨⟨h1,a⟩,m⟩,n⟩,s⟩,t,d⟩;have f:=jB ns r (some e.path) (u+1) fy;obtain⟨g1,g2,g3,g4,g5⟩:=f.1 d;refine⟨⟨⟨h1,a⟩,g1⟩,fS,g3,λi hi B=>?_,λi hi hk=>?_⟩
    ·grind
    ·rw[hc];have:=g5 i hi hk;constructor
     ·grind
     ·intro C
      by_cases e':i=u
      ·grind
      ·rw[if_neg fy];omega
   ·rintro⟨⟨⟨h1,a⟩,g1⟩,⟨⟨⟨m,n⟩,s⟩,g2⟩,g3,g4,g5⟩;have f:=jB ns r (some e.path) (u+1) fy;refine⟨fS,fS,f.2 ⟨g1,g2,g3,fS,λi hi hk=>?_⟩⟩;have:=g5 i hi hk;rw[hc]at this;constructor
    ·grind
    grind
end
section
theorem hB:∀{l:List En} {p:fQ} {k:Int},fR l p=some k->∃e∈l,e.path=p/\e.node=k
 |[],_,_,h=>by cases h
 |e::r,p,k,h=>by
  rw[fR]at h;split at h
  ·grind
  ·obtain⟨e',h1,a⟩:=hB h;grind
theorem p6:∀{l:List En} {p:fQ},fR l p=none->∀e∈l,e.path≠p
 |[],_,_,e,he=>by simp at he
 | e0::r,p,h,e,he=>by
  rw[fR]at h;split at h
  ·cases h
  ·rename_i a;rcases hX.1 he with rfl|he
   ·exact a
   ·exact p6 h e he
theorem po {n:Nat}:∀{l:List En} {u:Nat},jz n u l=true->∀e∈l,0<=e.node/\e.node<n
 |[],_,_,e,he=>by simp at he
 |e0::r,u,h,e,he=>by
  simp only[jz,iO,decide_eq_true_eq]at h;rcases hX.1 he with rfl|he
  ·omega
  ·exact po h.2 e he
theorem HX (a:fQ):ie a []=false:=by
 unfold ie;rw[kx];cases fZ a<;>rfl
theorem na:∀{l:List En} {p:Option fQ},ik p l=true->∀e∈l,gU e.path=true
 |[],_,_,e,he=>by simp at he
 |e0::r,p,h,e,he=>by
  simp only[ik,iO]at h;rcases hX.1 he with rfl|he
  ·exact h.1.1
  ·exact na h.2 e he
theorem pX:∀{l:List En} {p:fQ},ik (some p) l=true->∀e∈l,e.path≠[]
 |[],_,_,e,he=>by simp at he
 |e0::r,p,h,e,he=>by
  simp only[ik,iO]at h;rcases hX.1 he with rfl|he
  ·grind [HX,absurd]
  ·exact pX h.2 e he
def xJ (t:fY) (e:En):Bool:=match iL e.path with
 |none=>true
 |some up=>match fR t.es up with
  |some k=>decide (0<=k)&&decide (k<t.ns.length)&&decide (gf t.ns k=1)
  |none=>false
def sL (t:fY):Option fQ->Nat->List En->Bool
 |_,_,[]=>true
 |prev,used,e::r=>gU e.path&&(match prev with|none=>true|some p=>ie p e.path)&&decide (0<=e.node)&&decide (e.node<=used)&&decide (e.node<t.ns.length)&&xJ t e&&sL t (some e.path) (if e.node<used then used else used+1) r
def rn (t:fY) (i:Nat):Bool:=fH (t.ns.getD i default)&&decide (j1 i t.es≠0)&&(decide (gf t.ns i≠1)||decide (j1 i t.es=1))
def K8 (t:fY):Bool:=decide (1<=t.es.length)&&decide (t.es.length<=100)&&decide ((t.es.headD default).path=[])&&sL t none 0 t.es&&(List.range t.ns.length).all (rn t)&&decide (gf t.ns ((t.es.headD default).node)=1)
theorem zx (t:fY):∀(l:List En) (p:fQ) (u:Nat),sL t (some p) u l=true↔ik (some p) l=true/\jz t.ns.length u l=true/\l.all (xJ t)=true
 |[],_,_=>by simp[sL,ik,jz]
 |e::r,p,u=>by
  simp only[sL,ik,jz,iO,decide_eq_true_eq,rJ];rw[zx t r e.path]
  grind
theorem LW {t:fY} (a:∀e∈t.es,0<=e.node/\e.node<t.ns.length) {e:En} (hm:gU e.path=true) (h0:e.path≠[]):xJ t e=rp t e:=by
 grind [xJ,rp,iL,ig,kK,fR,oF,hB]
theorem RE (t:fY):K8 t=gQ t:=by
 obtain⟨es,ns⟩:=t;cases es with
 |nil=>rfl
 | cons e r=>
  rw[Co];unfold K8 gQ;simp only[iO,decide_eq_true_eq,List.headD_cons,RG,vU];rw[jB ns (e::r) none 0 (iy _)];constructor
  ·rintro⟨⟨⟨⟨⟨h1,v⟩,m⟩,n⟩,H⟩,s⟩;simp only[sL,iO,decide_eq_true_eq]at n;rw[zx]at n;obtain⟨⟨⟨⟨⟨⟨D,_⟩,a3⟩,a4⟩,a5⟩,F⟩,g,G,a9⟩:=n;have m:e.path=[]:=of_decide_eq_true m;have u:ik none (e::r)=true:=by simp only[ik,D,g,decide_eq_true m,Lu]
   have d:jz ns.length 0 (e::r)=true:=by simp only[jz,iO,decide_eq_true_eq];exact fS
   have C:∀i,i<ns.length->rn ⟨e::r,ns⟩ i=true:=fS
   have y:kE 0 (e::r)=ns.length:=by
    have hle:=DR (e::r) 0 (iy _) d;rcases pT (kE 0 (e::r)) ns.length with fW|J
    ·grind [rn,rY,kE]
    ·omega
   refine⟨⟨⟨⟨h1,v⟩,u,d,y,λi _ hi=>?_,λi hi hk=>⟨λh=>fy,λ_=>?_⟩⟩,s⟩,?_⟩
   ·grind [rn]
   ·grind [rn,absurd]
   ·rw[lj]at a9⊢;intro x a;have E:=pX g x a;rw[←LW (t:=⟨e::r,ns⟩) (po d) (na g x a) E];exact a9 x a
  ·rintro⟨⟨⟨⟨h1,v⟩,u,d,y,C,I⟩,s⟩,w⟩;have f:=u;simp only[ik,iO,decide_eq_true_eq]at f;have B:=d;simp only[jz,iO,decide_eq_true_eq]at B;refine⟨⟨⟨fS,?_⟩,?_⟩,s⟩
   ·simp only[sL,iO,decide_eq_true_eq];rw[zx];refine⟨⟨fS,?_⟩,f.2,B.2,?_⟩
    ·unfold xJ iL;rw[f.1.2];rfl
    ·rw[lj]at w⊢;intro x a;rw[LW (t:=⟨e::r,ns⟩) (po d) (na f.2 x a) (pX f.2 x a)];exact w x a
   ·rw[lj];intro i hi;have hi:=xK.1 hi;simp only[rn,iO,tK,decide_eq_true_eq];refine⟨⟨C i (iy _) hi,?_⟩,?_⟩<;>grind [rY,gf]
theorem C3 (a b c:List fQ) (h:iV a c=true):iV a b=true∨iV b c=true:=by
 grind [wE,lL]
def x8 (x y:En):Prop:=ie y.path x.path=false
def Bl (x y:En):Prop:=ie x.path y.path=true
theorem Mn {x y z:En} (h:x8 x y) (a:x8 y z):x8 x z:=by
 grind [x8,ie,iV,fZ,C3]
theorem W5 {x y:En} (h:Bl x y):x8 x y:=tN h
theorem qU:∀(l l':List En),l.Pairwise Bl->l'.Pairwise x8->l'.Perm l->l'=l
 |[],l',_,_,a=>a.eq_nil
 |x::l,[],_,_,a=>by simp_all
 | x::l,y::l',h,d,a=>by
  rw[jr]at h d
  have f:y=x:=by
   rcases hX.1 (a.mem_iff.1 (jQ))with e|g
   ·exact e
   ·grind [List.mem_cons_self,Bl,x8]
  subst f;rw[qU l l' h.2 d.2 mu]
def qL (e:En) (l:List En):Nat->Nat
 |0=>0
 |k+1=>if ie e.path (l.getD k default).path then qL e l k else k+1
def xA (e:En) (l:List En):List En:=l.take (qL e l l.length)++e::l.drop (qL e l l.length)
def jR (l:List En):List En:=l.foldl (λa e=>xA e a) []
theorem Dq (e:En) (l:List En):∀k,qL e l k<=k
 |0=>gJ _
 |k+1=>by
  rw[qL];split
  ·exact Nat.le_succ_of_le (Dq e l k)
  omega
theorem wI (e:En) (l:List En):∀k j,qL e l k<=j->j<k->ie e.path (l.getD j default).path=true
 |0,j,_,h=>fy
 | k+1,j,h1,d=>by
  rw[qL]at h1;split at h1
  ·rename_i a
   by_cases e':j=k
   ·subst e';exact a
   ·exact wI e l k j h1 fy
  ·omega
theorem zS (e:En) (l:List En):∀k,0<qL e l k->ie e.path (l.getD (qL e l k-1) default).path=false
 |0,h=>by simp[qL]at h
 |k+1,h=>by
  rw[qL]at h⊢;split at h
  ·rename_i a;rw[if_pos a];exact zS e l k h
  grind
theorem Mx (e:En) (l:List En):(xA e l).Perm (e::l):=by
 grind [xA,List.perm_middle,qL,List.length,List.take_append_drop]
theorem HV {e:En} {l:List En} (h:l.Pairwise x8):(xA e l).Pairwise x8:=by
 unfold xA;have hk:=Dq e l l.length;have g:=wI e l l.length;have f:=zS e l l.length;obtain⟨k,m⟩:∃k,k=qL e l l.length:=⟨_,rfl⟩;rw[←m]at hk g f⊢;rw[j6,jr];have hs:=h;rw[←lv k l,j6]at hs
 have h1:∀x∈l.take k,x8 x e:=by
  intro x d;obtain⟨j,a,rfl⟩:=Bc d;rw[kt]at a;have hle:x8 (l.getD (k-1) default) e:=f fy;rw[List.getElem_take]
  by_cases e':j=k-1
  ·grind
  ·grind [Mn,List.getElem?_eq_getElem,List.pairwise_iff_getElem]
 have n:∀x∈l.drop k,x8 e x:=by
  intro x d;obtain⟨j,a,rfl⟩:=Bc d;rw[lH]at a;have:=g (k+j) fy fy;rw[kv,kp fy]at this;rw[List.getElem_drop];exact W5 this
 grind
theorem tW:∀(l a:List En),a.Pairwise x8->(l.foldl (λa e=>xA e a) a).Pairwise x8/\(l.foldl (λa e=>xA e a) a).Perm (l++a)
 |[],a,h=>⟨h,.refl _⟩
 |e::l,a,h=>by
  rw[u3];obtain⟨h1,d⟩:=tW l (xA e a) (HV h)
  grind [Mx,List.perm_middle]
theorem l7 (l:List En):(jR l).Pairwise x8:=(tW l [] List.Pairwise.nil).1
theorem jg (l:List En):(jR l).Perm l:=by have:=(tW l [] List.Pairwise.nil).2;rwa[nk]at this
def iB:List Int->List En->List En×List Int
 |seen,[]=>([],seen)
 |seen,e::r=>if e.node∈seen then(⟨e.path,(seen.idxOf e.node:Int)⟩::(iB seen r).1,(iB seen r).2)
  else(⟨e.path,(seen.length:Int)⟩::(iB (seen++[e.node]) r).1,(iB (seen++[e.node]) r).2)
def jw (ns:List Nd) (l:List En):fY:=⟨(iB [] l).1,(iB [] l).2.map λk=>ns.getD k.toNat default⟩
def xD (n:Nat) (e:En):Bool:=decide (0<=e.node)&&decide (e.node<n)
def hN (t:fY):Option fY:=if t.es.all (xD t.ns.length)&&gQ (jw t.ns (jR t.es))then some (jw t.ns (jR t.es))else none
theorem lK:∀(l:List En) (s:List Int),(iB s l).1.map (·.path)=l.map (·.path)
 |[],_=>rfl
 |e::r,s=>by
  rw[iB];split
  ·simp[lK r s]
  ·simp[lK r (s++[e.node])]
theorem PN (l:List En) (s:List Int):(iB s l).1.length=l.length:=by
 have:=congrArg List.length (lK l s);simpa using this
theorem wQ:∀(l:List En) (p:fQ),ik (some p) l=true->(∀e∈l,ie p e.path=true)/\l.Pairwise Bl
 |[],_,_=>mu
 |e::r,p,h=>by
  simp only[ik,iO]at h;obtain⟨h1,d⟩:=wQ r e.path h.2;refine⟨λx a=>?_,jr.2 ⟨h1,d⟩⟩;rcases hX.1 a with rfl|a
  ·exact h.1.2
  ·exact lL _ _ _ h.1.2 (h1 x a)
theorem pC {t:fY} (h:gQ t=true):t.es.Pairwise Bl:=by
 obtain⟨es,ns⟩:=t;cases es with
 |nil=>simp_all
 |cons e r=>
  unfold gQ at h;simp only[iO,decide_eq_true_eq]at h;have:=((jB ns (e::r) none 0 (iy _)).1 h.1.1.2).1;simp only[ik,iO]at this;have:=wQ r e.path this.2;exact jr.2 ⟨this.1,this.2⟩
theorem wz {t:fY} (h:gQ t=true):∀e∈t.es,gU e.path=true:=by
 grind [gQ,na,jB]
theorem vr {l l':List En} (h:l.map (·.path)=l'.map (·.path)) (d:l.Pairwise Bl):l'.Pairwise Bl:=by
 have h1:(l.map (·.path)).Pairwise (λa b=>ie a b=true):=zd.2 d;rw[h]at h1;exact(zd (f:=λx:En=>x.path)).1 h1
theorem RI {t:fY} {s:List En} (f:s.Perm t.es) (hs:s.Pairwise x8):(if s.all (xD t.ns.length)&&gQ (jw t.ns s)then some (jw t.ns s)else none)=hN t:=by
 have d:s.all (xD t.ns.length)=t.es.all (xD t.ns.length):=by
  rw[Co,lj,lj];exact fS
 unfold hN;rw[d]
 by_cases h1:gQ (jw t.ns s)=true
 ·have:=vr (lK s []) (pC h1)
  grind [qU,jR,l7,jg,List.Perm.symm]
 ·by_cases a:gQ (jw t.ns (jR t.es))=true
  ·have:=vr (lK (jR t.es) []) (pC a)
   grind [qU,jR,jg]
  ·simp[h1,a]
theorem F2 {t:fY} (h:100<t.es.length):hN t=none:=by
 unfold hN
 have:gQ (jw t.ns (jR t.es))=false:=by
  unfold gQ jw;simp only[PN,(jg t.es).length_eq,show ¬t.es.length<=100 by omega,decide_false,sO,hW]
 rw[this];simp
theorem NA {t:fY} {e:En} (he:e∈t.es) (h:gU e.path=false):hN t=none:=by
 unfold hN;cases hm:gQ (jw t.ns (jR t.es))with
 |false=>simp
 | true=>
  have a:e.path∈(jw t.ns (jR t.es)).es.map (·.path):=by
   show e.path∈(iB [] (jR t.es)).1.map (·.path)
   rw[lK];exact(by grind [jg])
  grind [wz]
theorem KU {t:fY} {e:En} (he:e∈t.es) (h:xD t.ns.length e=false):hN t=none:=by
 grind [hN,xD,List.length,List.all_eq_false]
theorem yA {t u:fY} (h:hN t=some u):gQ u=true:=by
 grind [hN]
def vi (vb:List fQ) (p:fQ):Bool:=decide (p=[])||vb.any λq=>EF p q||EF q p
def UR (t:fY) (vb:List fQ):Option fY×Int:=
 if gQ t then
  if vb.all λq=>(fR t.es q).isSome then
   match hN ⟨t.es.filter (λe=>vi vb e.path),t.ns⟩with
   |some u=>(some u,0)
   |none=>(none,1)
  else(none,7)
 else(none,1)
def nE (t:fY) (p:fQ):List fQ:=(t.es.filter λe=>decide (iL e.path=some p)).map λe=>mO e.path
def tJ (t:fY) (p:fQ):List fQ:=match fR t.es p with
 |some k=>(t.es.filter λe=>decide (e.node=k)).map (·.path)
 |none=>[]
def gd:List Nd->Nat
 |[]=>0
 |n::r=>fE n.data+gd r
end
section
def Rw {α:Type} (a:α->List Value) (w:World) (v:Value) (l:List α):Prop:=Row w v l.length (l.flatMap a)
def RwC {α:Type} (a:α->List Value) (z:Nat) (w:World) (A:Option Addr) (l:List α):Prop:=
 0<l.length->∃b o,A=some ⟨b,o,none⟩/\b<w.heap.size/\∀i x,l[i]? =some x->∀j u,(a x)[j]? =some u->w.cell? ⟨b,o+i*z+j,none⟩=some u
theorem flat_get {α:Type} {a:α->List Value} {z:Nat} (d:∀x,(a x).length=z):∀{l:List α} {i:Nat} {x:α},l[i]? =some x->∀{j:Nat} {u:Value},(a x)[j]? =some u->(l.flatMap a)[i*z+j]? =some u
 |[],i,x,h,_,_,_=>by simp at h
 |y::l,0,x,h,j,u,hu=>by
  simp only[KQ]at h;injection h with h
  subst h;rw[td,iC,wb,pR (j0.1 hu).1];exact hu
 |y::l,i+1,x,h,j,u,hu=>by
  rw[C8]at h;have:=flat_get d h hu;rw[wb,qE (by rw[d,qV];omega),d,qV,show i*z+z+j-z=i*z+j from by omega];exact this
theorem gl {α:Type} {a:α->List Value} {z:Nat} (d:∀x,(a x).length=z):∀l:List α,(l.flatMap a).length=l.length*z
 |[]=>by simp
 |y::l=>by rw[wb,hQ,d,gl d l,iA,qV];omega
section
variable {α:Type} {cf:α->List Value} {w w':World} {v:Value} {l:List α}
theorem Rw.fr {S:Nat->Prop} (h:Rw cf w v l) (d:Fr S w w') (a:∀b,v.ownBlock=some b->¬S b):Rw cf w' v l:=Row.fr h d a
theorem Rw.ext (h:Rw cf w v l) (a:Ext w w'):Rw cf w' v l:=Row.ext h a
theorem Rw.op (t:∀x,(cf x).length=z) (h:Rw cf w v l):∃A c,v= .slice A l.length c/\l.length<=c/\c<=9223372036854775807/\RwC cf z w A l:=by
 obtain⟨A,c,h1,a,d,f⟩:=h;refine⟨A,c,h1,a,d,λh0=>?_⟩;obtain⟨b,o,g,m,n⟩:=f h0;exact⟨b,o,g,m,λi x s j u hu=>by rw[Hj];exact n _ u (flat_get t s hu)⟩
theorem RwC.at_ (h:RwC cf z w A l) {i:Nat} (hi:i<l.length):∃b o x,A=some ⟨b,o,none⟩/\b<w.heap.size/\l[i]? =some x/\l.drop i=x::l.drop (i+1)/\∀j u,(cf x)[j]? =some u->w.cell? ⟨b,o+i*z+j,none⟩=some u:=by
 obtain⟨b,o,h1,d,f⟩:=h fy;have a:=kp hi;exact⟨b,o,l[i],h1,d,a,EJ hi,f i _ a⟩
theorem Rw.nil (w:World) (c:Nat) (hc:c<=maxLen):Rw cf w (.slice none 0 c) ([]:List α):=⟨none,c,rfl,iy _,hc,λh=>absurd h ir⟩
end
def Ow {α:Type} (a:α->List Value) (z:Nat) (w:World) (B:Nat) (e:TypeId) (v:Value) (l:List α):Prop:=gD w B e z v l.length (l.flatMap a)
section
variable {α:Type} {cf:α->List Value} {z:Nat} {w w':World} {B:Nat} {e:TypeId} {v:Value} {l:List α}
theorem Ow.rw (h:Ow cf z w B e v l):Rw cf w v l:=gD.row h
theorem Ow.nil (w:World) (B:Nat) (e:TypeId):Ow cf z w B e (.slice none 0 0) []:=gD.nil w B e z
theorem Ow.fr {S:Nat->Prop} (h:Ow cf z w B e v l) (d:Fr S w w') (a:∀b,v.ownBlock=some b->¬S b):Ow cf z w' B e v l:=gD.fr h d a
theorem Ow.ext (h:Ow cf z w B e v l) (a:Ext w w'):Ow cf z w' B e v l:=gD.ext h a
theorem Ow.gH (h:Ow cf z w B e v l) {b:Nat} (a:v.ownBlock=some b):B<=b/\b<w.heap.size:=gD.gH h a
theorem Ow.mono {a:Nat} (h:Ow cf z w B e v l) (d:a<=B):Ow cf z w a e v l:=gD.mono h d
theorem Ow.form (h:Ow cf z w B e v l):∃A c,v= .slice A l.length c/\l.length<=c/\c<=9223372036854775807:=gD.form h
theorem Ow.ext1 {l':List α} (h:gD w B e z v (l.length+l'.length) (l.flatMap cf++l'.flatMap cf)):Ow cf z w B e v (l++l'):=by
 unfold Ow;rw[hQ,tO];exact h
theorem Ow.EE {b n:Nat} (g:∀x,(cf x).length=z) (h:fU w b e cs) (hc:cs=(l.flatMap cf).toArray) (d:B<=b) (f:n=l.length) (hm:n<=maxLen):Ow cf z w B e (.slice (some ⟨b,0,none⟩) n n) l:=by
 subst f;subst hc;have a:=gl g l;refine⟨a,.inr ⟨b,l.length,(l.flatMap cf).toArray,rfl,d,h,gJ _,hm,?_,?_⟩⟩
 ·simp only[nz];exact a
 ·rw[←a,pG (Li ir)]
end
theorem gS {b n:Nat} {t:TypeId} {l:List Value} (h:fU w b t cs) (d:n<=maxLen) (a:l=cs.toList):Row w (.slice (some ⟨b,0,none⟩) n n) n l:=
 ⟨_,_,rfl,gJ _,d,λ_=>⟨b,0,rfl,fU.lt h,λj u hu=>by rw[iC,fU.cell h];rw[a]at hu;simpa using hu⟩⟩
theorem jX (h:a=b):some (Value.int k a)=some (Value.int k b):=by rw[h]
def qK (s:fQ):List Value:=[.string (su s)]
def hI (e:En):List Value:=[.string (su e.path),.int .i64 e.node]
def jK (a:xn):List Value:=[.string (su a.name),.string (su a.value)]
def lh (a:Ac):List Value:=[.int .i64 a.kind,.int .i64 a.id,.int .i64 a.perm]
def j5 (p:hJ):List Value:=[.int .i64 p.pos,.string (su p.data)]
theorem oO (s:fQ):(qK s).length=1:=rfl
theorem gj (e:En):(hI e).length=2:=rfl
theorem jN (e:xn):(jK e).length=2:=rfl
theorem jZ (e:Ac):(lh e).length=3:=rfl
theorem ha (e:hJ):(j5 e).length=2:=rfl
theorem KB (l:List fQ):l.flatMap qK=l.map λs=>Value.string (su s):=by
 induction l with
 |nil=>rfl
 |cons x l a=>rw[wb,a];rfl
structure gG where
 n:Nd
 va:Value
 vc:Value
 vd:Value
def gz (x:gG):List Value:=[.int .i64 x.n.kind,.int .i64 x.n.mode,.int .i64 x.n.uid,.int .i64 x.n.gid,.int .i64 x.n.time,x.va,x.vc,.int .i64 x.n.size,x.vd,.string (su x.n.target),.int .i64 x.n.major,.int .i64 x.n.minor]
theorem gI (x:gG):(gz x).length=12:=rfl
structure ix (w:World) (x:gG):Prop where
 a:Rw jK w x.va x.n.attrs
 c:Rw lh w x.vc x.n.acl
 d:Rw j5 w x.vd x.n.data
theorem ix.ext {w w':World} {x:gG} (h:ix w x) (f:Ext w w'):ix w' x:=⟨h.a.ext f,h.c.ext f,h.d.ext f⟩
structure nj (w:World) (ve vn:Value) (fK:List gG) (t:fY):Prop where
 e:Rw hI w ve t.es
 n:Rw gz w vn fK
 i:∀x∈fK,ix w x
 m:fK.map (·.n)=t.ns
theorem nj.ext {w w':World} {ve vn:Value} {fK:List gG} {t:fY} (h:nj w ve vn fK t) (a:Ext w w'):nj w' ve vn fK t:=⟨h.e.ext a,h.n.ext a,λx d=>(h.i x d).ext a,h.m⟩
theorem nj.len {ve vn:Value} {fK:List gG} {t:fY} (h:nj w ve vn fK t):fK.length=t.ns.length:=by rw[←h.m];simp
theorem nj.get {ve vn:Value} {fK:List gG} {t:fY} (h:nj w ve vn fK t) {i:Nat} {x:gG} (a:fK[i]? =some x):t.ns[i]? =some x.n:=by rw[←h.m];simp[a]
theorem nj.getD {w:World} {ve vn:Value} {fK:List gG} {t:fY} (h:nj w ve vn fK t) {i:Nat} {x:gG} (a:fK[i]? =some x):t.ns.getD i default=x.n:=by
 rw[kv,h.get a];rfl
theorem fJ {l:List Value} (h:l.all (·.oneCell')=true):(l.toArray).all (·.oneCell')=true:=by simpa using h
end
section
def uN (z:Int):Nat:=(IntKind.u64.wrap z).toNat
theorem Zi (z:Int):IntKind.u64.wrap z=((uN z:Nat):Int):=by
 unfold uN;have:0<=IntKind.u64.wrap z:=by simp[IntKind.wrap,IntKind.signed,IntKind.bits];omega
 omega
theorem aah (z:Int):uN z<=18446744073709551615:=by
 unfold uN;have:IntKind.u64.wrap z<=18446744073709551615:=by simp[IntKind.wrap,IntKind.signed,IntKind.bits];omega
 omega
end
end Go.Proofs.YtecaahegomdbbaaGreatDoor.gp
