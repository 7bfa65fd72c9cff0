/-
  Parts of the proof: Wc.
-/
import Derived.Test.YtbpmlbjapapoaaaGreatDoorRWb
set_option maxRecDepth 100000
set_option maxHeartbeats 64000000
namespace Go.Proofs.YtbpmlbjapapoaaaGreatDoor.Eng
open Go.RowKit
section
attribute [local irreducible] xs T
theorem drop_get {α : Type} {l : List α} {i : Nat} {c : α} (hc : l[i]? = some c) : l.drop i = c :: l.drop (i + 1):=by
 have hlt:=(List.getElem?_eq_some_iff.1 hc).1
 rw [List.drop_eq_getElem_cons hlt]
 rw [List.getElem?_eq_getElem hlt] at hc
 rw [Option.some.inj hc]
theorem rname_does (w : World) (l : Str) (hl : l.length ≤ 1000000) : Does Tryz.prog 57 #[.string (su l)] w fun r w'=>r = .bool (nameU l) ∧ w = w':=by
 refine does1 Tryz.func57 rfl (by kernel_rfl) ?_
 rw [nameU_eq]
 refine gz2 ?_
 refine tloop (α:=Nat) (fun i=>[(0,.string (su l)),(3,.int .i64 (i : Int))]) (fun i w'=>w = w' ∧ i ≤ l.length ∧ (l.drop i).all chrU = l.all chrU) (fun i=>l.length - i) 0 (sub ⟨rfl,rfl⟩) ⟨rfl,Nat.zero_le _,rfl⟩ ?_
 rintro i w' ⟨rfl,hi,hgo⟩
 by_cases hlt : i < l.length
 ·obtain ⟨c,hc⟩ : ∃ c,l[i]? = some c:=⟨_,List.getElem?_eq_getElem hlt⟩
  rw [drop_get hc,List.all_cons] at hgo
  by_cases g1 : c = 47
  ·have e1 : ((c.toNat : Int)) = 47:=by rw [g1];rfl
   refine gz3 ?_
   exact tret1 rfl rfl ⟨by rw [← hgo,g1];simp [chrU],rfl⟩
  have e1 : ¬ ((c.toNat : Int)) = 47:=fun h=>g1 ((u8_eq (n:=47) (by decide)).1 h)
  by_cases g2 : c = 0
  ·have e2 : ((c.toNat : Int)) = 0:=by rw [g2];rfl
   refine gz3 ?_
   exact tret1 rfl rfl ⟨by rw [← hgo,g2];simp [chrU],rfl⟩
  have e2 : ¬ ((c.toNat : Int)) = 0:=fun h=>g2 ((u8_eq (n:=0) (by decide)).1 h)
  have hch : chrU c = true:=by simp [chrU,g1,g2]
  rw [hch,Bool.true_and] at hgo
  refine gz3 ?_
  exact y26
 ·obtain rfl : i = l.length:=by omega
  rw [List.drop_length] at hgo
  rw [← hgo]
  by_cases h1 : 1 ≤ l.length
  ·by_cases h2 : l.length ≤ 20
   ·by_cases h3 : l = [46]
    ·subst h3
     repeat' (first | refine xucmp (op:=.neq) (b:=[46]) (r:=false) rfl rfl rfl ?_ | refine xuln1 rfl rfl ?_ | refine xuln rfl rfl ?_ | refine go1L ?_ | fail)
     exact y4
    ·by_cases h4 : l = [46,46]
     ·subst h4
      repeat' (first | refine xucmp (op:=.neq) (b:=[46]) (r:=true) rfl rfl rfl ?_ | refine xucmp (op:=.neq) (b:=[46,46]) (r:=false) rfl rfl rfl ?_ | refine xuln1 rfl rfl ?_ | refine xuln rfl rfl ?_ | refine go1L ?_ | fail)
      exact y4
     ·repeat' (first | refine xucmp (op:=.neq) (b:=[46]) (r:=true) rfl rfl (by simp [cmpU,h3]) ?_ | refine xucmp (op:=.neq) (b:=[46,46]) (r:=true) rfl rfl (by simp [cmpU,h4]) ?_ | refine xuln1 rfl rfl ?_ | refine xuln rfl rfl ?_ | refine go1L ?_ | fail)
      exact tret1 rfl rfl ⟨by simp [h1,h2,h3,h4],rfl⟩
   ·refine gz2 ?_
    exact tret1 rfl rfl ⟨by simp [h2],rfl⟩
  ·refine gz2 ?_
   exact tret1 rfl rfl ⟨by simp [h1],rfl⟩
structure CtI (l : Str) (w0 : World) (x : Nat × Nat × Value × List Str) (w : World) : Prop where
 i : x.1 ≤ l.length + 1
 own : Ow stC 1 w w0.heap.size 9 x.2.2.1 x.2.2.2
 go : x.1 ≤ l.length → x.2.1 ≤ x.1 ∧ (47 : UInt8) ∉ (l.drop x.2.1).take (x.1 - x.2.1) ∧ x.2.2.2 ++ cutU (l.drop x.2.1) = cutU l
 fin : x.1 = l.length + 1 → x.2.2.2 = cutU l
 fr : x.2.1 ≤ l.length + 1
 len : x.2.2.2.length ≤ x.1
 ext : Ext w0 w
theorem rcut_does (w : World) (l : Str) (hl : l.length ≤ 1000000) : Does Tryz.prog 63 #[.string (su l)] w fun r w'=>Ow stC 1 w' w.heap.size 9 r (cutU l) ∧ Ext w w':=by
 refine does1 Tryz.func63 rfl (by kernel_rfl) ?_
 refine gz2 ?_
 refine tloop (α:=Nat × Nat × Value × List Str) (fun x=>[(0,.string (su l)),(3,x.2.2.1),(4,.int .i64 (x.2.1 : Int)),(5,.int .i64 (x.1 : Int))]) (CtI l w) (fun x=>l.length + 1 - x.1) (0,0,.slice none 0 0,[]) (sub ⟨rfl,rfl,rfl,rfl⟩) ⟨Nat.zero_le _,Ow.nil _ _ _,fun _=>⟨Nat.le_refl _,by simp,rfl⟩,fun h=>by dsimp only at h;omega,Nat.zero_le _,Nat.le_refl _,Fr.refl _ _⟩ ?_
 rintro ⟨i,k,v,acc⟩ w1 ⟨hi,hown,hgo,hfin,hk,hlen,hE⟩
 dsimp only at hi hown hgo hfin hk hlen hE ⊢
 by_cases hle : i ≤ l.length
 ·obtain ⟨hki,hns,hcut⟩:=hgo hle
  obtain ⟨p,hp⟩ : ∃ p,p = (l.drop k).take (i - k):=⟨_,rfl⟩
  rw [← hp] at hns
  obtain ⟨A1,c1,e1,hc1,hm1⟩:=hown.form
  have step : ∀ (acc' : List Str),acc' = acc ++ [p] → (i < l.length → acc' ++ cutU (l.drop (i + 1)) = cutU l) → (i = l.length → acc' = cutU l) → ∀ (v' : Value) (w' : World),Ow stC 1 w' w.heap.size 9 v' acc' → Ext w w' →
    CtI l w (i + 1,i + 1,v',acc') w':=fun acc' ha h1 h2 v' w' ho he=>⟨by dsimp only;omega,ho,fun h=>⟨Nat.le_refl _,by simp,h1 (by dsimp only at h;omega)⟩,fun h=>h2 (by dsimp only at h;omega),by dsimp only;omega,by dsimp only;rw [ha,List.length_append];simp;omega,he⟩
  by_cases hsl : i = l.length ∨ l[i]? = some 47
  ·have tl : ∀ env,Sub [(0,.string (su l)),(3,v),(4,.int .i64 (k : Int)),(5,.int .i64 (i : Int))] env → True:=fun _ _=>trivial
   rcases hsl with he | hc
   ·have hpd : l.drop k = p:=by rw [hp,he,List.take_of_length_le (by rw [List.length_drop];omega)]
    rw [hpd,cut_one p hns] at hcut
    have hst:=step (acc ++ [p]) rfl (fun h=>by omega) (fun _=>hcut)
    repeat' (first | refine xusl2 k i rfl rfl rfl rfl rfl rfl (by omega) (by omega) ?_ | refine xuln1 rfl rfl ?_ | refine xuln rfl rfl ?_ | refine go1L ?_ | fail)
    exact y3
   ·have hlt:=(List.getElem?_eq_some_iff.1 hc).1
    have hpd : l.drop k = p ++ 47 :: l.drop (i + 1):=by
     have h1:=List.take_append_drop (i - k) (l.drop k)
     rw [List.drop_drop,show k + (i - k) = i from by omega,drop_get hc,← hp] at h1
     exact h1.symm
    rw [hpd,cut_part p _ hns] at hcut
    have hst:=step (acc ++ [p]) rfl (fun _=>by rw [← hcut];simp) (fun h=>by omega)
    have e47 : (((47 : UInt8).toNat : Int)) = 47:=rfl
    repeat' (first | refine xui (z:=47) i rfl rfl rfl rfl hc ?_ | refine xusl2 k i rfl rfl rfl rfl rfl rfl (by omega) (by omega) ?_ | refine xuln1 rfl rfl ?_ | refine xuln rfl rfl ?_ | refine go1L ?_ | fail)
    exact y3
  ·have hlt : i < l.length:=by
    rcases Nat.lt_or_ge i l.length with h | h
    ·exact h
    ·exact absurd (.inl (by omega)) hsl
   obtain ⟨c,hc⟩ : ∃ c,l[i]? = some c:=⟨_,List.getElem?_eq_getElem hlt⟩
   have g1 : c ≠ 47:=fun e=>hsl (.inr (by rw [hc,e]))
   have e1 : ¬ ((c.toNat : Int)) = 47:=fun h=>g1 ((u8_eq (n:=47) (by decide)).1 h)
   refine gz3 ?_
   refine tfin ⟨(i + 1,k,v,acc),sub ⟨rfl,rfl,rfl,rfl⟩,⟨by dsimp only;omega,hown,fun _=>⟨by dsimp only;omega,?_,hcut⟩,fun h=>by dsimp only at h;omega,hk,by dsimp only;omega,hE⟩,(by show l.length + 1 - (i + 1) < l.length + 1 - i;omega)⟩
   dsimp only
   rw [show i + 1 - k = (i - k) + 1 from by omega,List.take_add_one,← hp,List.mem_append,not_or]
   refine ⟨hns,?_⟩
   rw [List.getElem?_drop,show k + (i - k) = i from by omega,hc]
   simpa using fun e=>g1 e.symm
 ·have hi2 : i = l.length + 1:=by omega
  rw [← hfin hi2]
  refine gz2 ?_
  exact tret1 rfl rfl ⟨hown,hE⟩
theorem rmay_does (w : World) (l : Str) (hl : l.length ≤ 1000000) : Does Tryz.prog 35 #[.string (su l)] w fun r w'=>r = .bool (mayP l) ∧ Ext w w':=by
 refine does1 Tryz.func35 rfl (by kernel_rfl) ?_
 by_cases h0 : l = []
 ·subst h0
  refine gz12 ?_
  exact tret1 rfl rfl ⟨rfl,Fr.refl _ _⟩
 have e0 : mayP l = ((cutU l).all nameU && decide (l.length ≤ 100) && decide ((cutU l).length ≤ 8)):=by simp [mayP,h0]
 rw [e0]
 refine gz6 ?_
 refine xcall rfl rfl (rcut_does w l hl) (fun r w1 h1=>?_)
 obtain ⟨h1,hE⟩:=h1
 have hcl : (cutU l).length ≤ l.length + 1:=by rw [cut_count];have:=List.count_le_length (a:=(47 : UInt8)) (l:=l);omega
 obtain ⟨A,c,rfl,hc1,hc2,hA⟩:=h1.rw.op stC_len
 refine gz2 ?_
 refine tloop (α:=Nat) (fun i=>[(0,.string (su l)),(3,.slice A (cutU l).length c),(4,.int .i64 (i : Int))]) (fun i w'=>w1 = w' ∧ i ≤ (cutU l).length ∧ ((cutU l).drop i).all nameU = (cutU l).all nameU) (fun i=>(cutU l).length - i) 0 (sub ⟨rfl,rfl,rfl⟩) ⟨rfl,Nat.zero_le _,rfl⟩ ?_
 rintro i w' ⟨rfl,hi,hgo⟩
 by_cases hlt : i < (cutU l).length
 ·obtain ⟨b,o,x,rfl,_,hx,hdr,hcell⟩:=hA.at_ hlt
  have hk:=hcell 0 _ rfl
  rw [Nat.mul_one,Nat.add_zero] at hk
  rw [hdr,List.all_cons] at hgo
  have hxl : x.length ≤ l.length:=by
   have hm:=List.mem_of_getElem? hx
   have : ∀ s : Str,∀ y ∈ cutU s,y.length ≤ s.length:=by
    intro s
    induction s with
    | nil=>intro y hy;simp [cutU] at hy;subst hy;simp
    | cons d r ih=>
     intro y hy
     by_cases hd : d = 47
     ·rw [cutU,if_pos hd] at hy
      rcases List.mem_cons.1 hy with rfl | hy
      ·simp
      ·have:=ih y hy;simp;omega
     ·rw [cutU,if_neg hd] at hy
      split at hy
      ·rename_i h t e
       rw [e] at ih
       rcases List.mem_cons.1 hy with rfl | hy
       ·have:=ih h (by simp);simp;omega
       ·have:=ih y (by simp [hy]);simp;omega
      ·rename_i e;exact absurd e (cutU_ne r)
   exact this l x hm
  repeat' (first | refine xisq i (o + i) rfl rfl rfl rfl rfl (by omega) ?_ | refine xuln1 rfl rfl ?_ | refine xuln rfl rfl ?_ | refine go1L ?_ | fail)
  refine xcall rfl rfl (rname_does w1 x (by omega)) (fun r w2 h2=>?_)
  obtain ⟨rfl,rfl⟩:=h2
  cases hn : nameU x with
  | false=>
   rw [hn,Bool.false_and] at hgo
   refine gz2 ?_
   exact tret1 rfl rfl ⟨by rw [← hgo];rfl,hE⟩
  | true=>
   rw [hn,Bool.true_and] at hgo
   refine gz2 ?_
   exact tfin ⟨i + 1,sub ⟨rfl,rfl,rfl⟩,⟨rfl,by omega,hgo⟩,(by show (cutU l).length - (i + 1) < (cutU l).length - i;omega)⟩
 ·obtain rfl : i = (cutU l).length:=by omega
  rw [List.drop_length] at hgo
  rw [← hgo]
  by_cases g1 : l.length ≤ 100
  ·by_cases g2 : (cutU l).length ≤ 8
   ·refine gz2 ?_
    exact tret1 rfl rfl ⟨by simp [g1,g2],hE⟩
   ·refine gz2 ?_
    exact tret1 rfl rfl ⟨by simp [g2],hE⟩
  ·refine gz2 ?_
   exact tret1 rfl rfl ⟨by simp [g1],hE⟩
theorem rparts_does (w : World) (l : Str) (hl : l.length ≤ 1000000) : Does Tryz.prog 64 #[.string (su l)] w fun r w'=>Ow stC 1 w' w.heap.size 9 r (partsP l) ∧ Ext w w':=by
 refine does1 Tryz.func64 rfl (by kernel_rfl) ?_
 by_cases h0 : l = []
 ·subst h0
  refine gz12 ?_
  exact tret1 rfl rfl ⟨Ow.nil _ _ _,Fr.refl _ _⟩
 refine gz6 ?_
 refine xcall rfl rfl (rmay_does w l hl) (fun r w1 h1=>?_)
 obtain ⟨rfl,hE⟩:=h1
 cases hm : mayP l with
 | false=>
  refine gz2 ?_
  exact tret1 rfl rfl ⟨by rw [partsP_no hm];exact Ow.nil _ _ _,hE⟩
 | true=>
  refine gz2 ?_
  refine xcall rfl rfl (rcut_does w1 l hl) (fun r w2 h2=>?_)
  obtain ⟨h2,hE2⟩:=h2
  refine gz2 ?_
  exact tret1 rfl rfl ⟨by rw [partsP_ok hm h0];exact h2.mono hE.size,hE.t hE2⟩
theorem rparent_does (w : World) (l : Str) (hl : l.length ≤ 1000000) : Does Tryz.prog 51 #[.string (su l)] w fun r w'=>r = .tuple #[.string (su (parS l)),.bool (parP l).isSome] ∧ Ext w w':=by
 refine does1 Tryz.func51 rfl (by kernel_rfl) ?_
 refine gz2 ?_
 refine xcall rfl rfl (rparts_does w l hl) (fun r w1 h1=>?_)
 obtain ⟨h1,hE⟩:=h1
 have hpl:=parts_len l
 obtain ⟨A,c,rfl,hc1,hc2,hA⟩:=h1.rw.op stC_len
 by_cases h0 : partsP l = []
 ·have hz : (partsP l).length = 0:=by rw [h0];rfl
  have e : parP l = none:=by unfold parP;rw [if_pos h0]
  refine gz2 ?_
  exact tret2 rfl rfl rfl ⟨by rw [parS,e];rfl,hE⟩
 ·have hz : 0 < (partsP l).length:=List.length_pos_iff.2 h0
  have e : parP l = some (upP l):=by unfold parP;rw [if_neg h0]
  obtain ⟨b,o,x,rfl,_,hx,_,hcell⟩:=hA.at_ (i:=(partsP l).length - 1) (by omega)
  have hx' : x = lastP l:=by
   rw [last_get h0] at hx
   exact (Option.some.inj hx).symm
  have hxn:=nameU_len (parts_name (List.mem_of_getElem? hx))
  have hk:=hcell 0 _ rfl
  have hup:=upP_take h0
  rw [← hx'] at hup
  repeat' (first | refine xisq ((partsP l).length - 1) (o + ((partsP l).length - 1)) rfl rfl rfl (by omega) rfl (by omega) ?_ | refine xuln1 rfl rfl ?_ | refine xuln rfl rfl ?_ | refine go1L ?_ | fail)
  refine xld rfl rfl (by rw [Nat.mul_one,Nat.add_zero] at hk;exact hk) ?_
  repeat' (first | refine xmax rfl rfl ?_ | refine xusl0 (l.length - x.length - 1) rfl rfl rfl (by omega) (by omega) ?_ | refine xuln1 rfl rfl ?_ | refine xuln rfl rfl ?_ | refine go1L ?_ | fail)
  exact tret2 rfl rfl rfl ⟨by rw [parS,e,← hup];rfl,hE⟩
theorem rless_does (w : World) (a b : Str) (ha : a.length ≤ 1000000) (hb : b.length ≤ 1000000) : Does Tryz.prog 36 #[.string (su a),.string (su b)] w fun r w'=>r = .bool (lessP a b) ∧ Ext w w':=by
 refine does2 Tryz.func36 rfl (by kernel_rfl) ?_
 unfold lessP
 refine goL ?_
 refine xcall rfl rfl (rparts_does w a ha) (fun r w1 h1=>?_)
 obtain ⟨h1,hE1⟩:=h1
 refine goL ?_
 refine xcall rfl rfl (rparts_does w1 b hb) (fun r w2 h2=>?_)
 obtain ⟨h2,hE2⟩:=h2
 obtain ⟨x,hx⟩ : ∃ x,x = partsP a:=⟨_,rfl⟩
 obtain ⟨y,hy⟩ : ∃ y,y = partsP b:=⟨_,rfl⟩
 have hxl:=parts_len a
 have hyl:=parts_len b
 rw [← hx] at h1 hxl ⊢
 rw [← hy] at h2 hyl ⊢
 obtain ⟨A,c,rfl,hc1,hc2,hA⟩:=(h1.rw.ext hE2).op stC_len
 obtain ⟨A',c',rfl,hc1',hc2',hA'⟩:=h2.rw.op stC_len
 refine goL ?_
 refine tloop (α:=Nat) (fun i=>[(5,.slice A x.length c),(6,.slice A' y.length c'),(7,.int .i64 (i : Int))]) (fun i w'=>Ext w2 w' ∧ i ≤ x.length ∧ i ≤ y.length ∧ lessL (x.drop i) (y.drop i) = lessL x y) (fun i=>x.length - i) 0 (sub ⟨rfl,rfl,rfl⟩) ⟨Fr.refl _ _,Nat.zero_le _,Nat.zero_le _,rfl⟩ ?_
 rintro i w3 ⟨hE3,hi,hi',hgo⟩
 have hEE:=(hE1.t hE2).t hE3
 by_cases g1 : i < x.length
 ·by_cases g2 : i < y.length
  ·obtain ⟨k,o,p,rfl,_,hp,hpd,hpc⟩:=hA.at_ g1
   obtain ⟨k',o',q,rfl,_,hq,hqd,hqc⟩:=hA'.at_ g2
   have c1:=hE3.cell (hpc 0 _ rfl)
   have c2:=hE3.cell (hqc 0 _ rfl)
   rw [Nat.mul_one,Nat.add_zero] at c1 c2
   rw [hpd,hqd,lessL] at hgo
   have c1' : w3.drew.cell? ⟨k,o + i,none⟩ = some (.string (su p)):=c1
   have c2' : w3.drew.cell? ⟨k',o' + i,none⟩ = some (.string (su q)):=c2
   have c1'' : w3.drew.drew.cell? ⟨k,o + i,none⟩ = some (.string (su p)):=c1
   have c2'' : w3.drew.drew.cell? ⟨k',o' + i,none⟩ = some (.string (su q)):=c2
   by_cases e : p = q
   ·subst e
    rw [if_pos rfl] at hgo
    repeat' (first | refine xisq i (o + i) rfl rfl rfl rfl rfl g1 ?_ | refine xisq i (o' + i) rfl rfl rfl rfl rfl g2 ?_ | refine xucmp (op:=.neq) (a:=p) (b:=p) (r:=false) rfl rfl (by simp [cmpU]) ?_ | refine xuln1 rfl rfl ?_ | refine xuln rfl rfl ?_ | refine go1L ?_ | fail)
    exact tfin ⟨i + 1,sub ⟨rfl,rfl,rfl⟩,⟨hE3.d,by omega,by omega,hgo⟩,(by show x.length - (i + 1) < x.length - i;omega)⟩
   ·rw [if_neg e] at hgo
    repeat' (first | refine xisq i (o + i) rfl rfl rfl rfl rfl g1 ?_ | refine xisq i (o' + i) rfl rfl rfl rfl rfl g2 ?_ | refine xucmp (op:=.neq) (a:=p) (b:=q) (r:=true) rfl rfl (by simp [cmpU,e]) ?_ | refine xucmp (op:=.lss) (a:=p) (b:=q) rfl rfl rfl ?_ | refine xuln1 rfl rfl ?_ | refine xuln rfl rfl ?_ | refine go1L ?_ | fail)
    exact tret1 rfl rfl ⟨by rw [← hgo],hEE.d.d⟩
  ·obtain rfl : i = y.length:=by omega
   rw [List.drop_length] at hgo
   have hne : x.drop y.length ≠ []:=by rw [Ne,List.drop_eq_nil_iff];omega
   have e : lessL x y = false:=by
    rw [← hgo]
    cases hd : x.drop y.length with
    | nil=>exact absurd hd hne
    | cons _ _=>rfl
   rw [e]
   refine gz2 ?_
   exact tret1 rfl rfl ⟨rfl,hEE⟩
 ·obtain rfl : i = x.length:=by omega
  rw [List.drop_length] at hgo
  by_cases g2 : x.length < y.length
  ·have hne : y.drop x.length ≠ []:=by rw [Ne,List.drop_eq_nil_iff];omega
   have e : lessL x y = true:=by
    rw [← hgo]
    cases hd : y.drop x.length with
    | nil=>exact absurd hd hne
    | cons _ _=>rfl
   rw [e]
   refine gz2 ?_
   exact tret1 rfl rfl ⟨rfl,hEE⟩
  ·have e : lessL x y = false:=by
    rw [← hgo,List.drop_of_length_le (by omega)];rfl
   rw [e]
   refine gz2 ?_
   exact tret1 rfl rfl ⟨rfl,hEE⟩
end
end Go.Proofs.YtbpmlbjapapoaaaGreatDoor.Eng
