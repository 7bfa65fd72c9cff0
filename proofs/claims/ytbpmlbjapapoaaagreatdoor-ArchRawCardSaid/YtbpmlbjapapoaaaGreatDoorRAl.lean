/-
  Parts of the proof: Al.
-/
import Derived.Test.YtbpmlbjapapoaaaGreatDoorRAk
set_option maxRecDepth 100000
set_option maxHeartbeats 64000000
namespace Go.Proofs.YtbpmlbjapapoaaaGreatDoor.Eng
open Go.RowKit
section
open Go.RowKit Go.Lib
attribute [local irreducible] xs T
def b1C (c : UInt8) : List Value:=[.int .u8 (c.toNat : Int)]
theorem b1C_len (c : UInt8) : (b1C c).length = 1:=rfl
theorem bs_flat (s : Str) : bs s = s.flatMap b1C:=by
 rw [bs_map,List.map_map]
 induction s with
 | nil=>rfl
 | cons c r ih=>rw [List.map_cons,List.flatMap_cons,ih];rfl
theorem equal_by (w : World) (v v' : Value) (l l' : Str) (hv : Row w v l.length (bs l)) (hv' : Row w v' l'.length (bs l')) : Does Tryz.prog 25 #[v,v'] w fun r w'=>r = .bool (decide (l = l')) ∧ Ext w w':=by
 refine does2 Tryz.func25 rfl (by kernel_rfl) ?_
 rw [bs_flat] at hv hv'
 have hv : Rw b1C w v l:=hv
 have hv' : Rw b1C w v' l':=hv'
 obtain ⟨A,c,rfl,hc1,hc2,hA⟩:=hv.op b1C_len
 obtain ⟨A',c',rfl,hc1',hc2',hA'⟩:=hv'.op b1C_len
 by_cases hlen : l.length = l'.length
 ·refine goL ?_
  refine tloop (α:=Nat) (fun i=>[(0,.slice A l.length c),(1,.slice A' l'.length c'),(12,.int .i64 (l.length : Int)),(13,.int .i64 (i : Int))]) (fun i w'=>Ext w w' ∧ i ≤ l.length ∧ decide (l.drop i = l'.drop i) = decide (l = l')) (fun i=>l.length - i) 0 (sub ⟨rfl,rfl,rfl,rfl⟩) ⟨Fr.refl _ _,Nat.zero_le _,rfl⟩ ?_
  rintro i w1 ⟨hE,hi,hgo⟩
  by_cases hlt : i < l.length
  ·obtain ⟨b,o,x,rfl,_,hx,hdr,hcell⟩:=hA.at_ hlt
   obtain ⟨b',o',y,rfl,_,hy,hdr',hcell'⟩:=hA'.at_ (i:=i) (by omega)
   rw [hdr,hdr'] at hgo
   have hxc : w1.drew.cell? ⟨b,o + i,none⟩ = some (.int .u8 (x.toNat : Int)):=by
    have:=hE.cell (hcell 0 _ rfl)
    rwa [Nat.mul_one] at this
   have hyc : w1.drew.cell? ⟨b',o' + i,none⟩ = some (.int .u8 (y.toNat : Int)):=by
    have:=hE.cell (hcell' 0 _ rfl)
    rwa [Nat.mul_one] at this
   by_cases e : x = y
   ·subst e
    have hgo : decide (l.drop (i + 1) = l'.drop (i + 1)) = decide (l = l'):=by rw [← hgo];simp
    refine go ?_
    exact tfin ⟨i + 1,sub ⟨rfl,rfl,rfl,rfl⟩,⟨hE.d,by omega,hgo⟩,(by show l.length - (i + 1) < l.length - i;omega)⟩
   ·rw [decide_eq_false (by simp [e])] at hgo
    have hne : (x.toNat : Int) ≠ (y.toNat : Int):=fun h=>e (UInt8.toNat_inj.1 (by omega))
    refine go ?_
    exact tret1 rfl rfl ⟨by rw [← hgo],hE.d⟩
  ·exact y2
 ·exact y9
theorem recsame_does (w : World) (a b : RcV) (ha : NdIn w a.nd) (hb : NdIn w b.nd) : Does Tryz.prog 26 #[.agg (rcC a).toArray,.agg (rcC b).toArray] w fun r w'=>r = .bool (decide (a.p = b.p)) ∧ Ext w w':=by
 refine does2 Tryz.func26 rfl (by kernel_rfl) ?_
 obtain ⟨p,l,n,q⟩:=a
 obtain ⟨p',l',n',q'⟩:=b
 dsimp only at ha hb
 have hdec : decide (RcV.p ⟨p,l,n,q⟩ = RcV.p ⟨p',l',n',q'⟩) = (decide (p = p') && decide (l = l') && decide (q = q') && decide (n.n = n'.n)):=by
  exact y28
 rw [hdec]
 refine goL ?_
 refine xbox rfl (fun w1 hB1 hE1 hs1=>?_)
 refine xbox rfl (fun w2 hB2 hE2 hs2=>?_)
 obtain ⟨g,hg⟩ : ∃ g,g = w.heap.size:=⟨_,rfl⟩
 rw [hs1] at hB2 hs2 ⊢
 rw [← hg] at hB1 hB2 hs1 hs2 ⊢
 have hA2 : Blk w2 g 49 (rcC ⟨p,l,n,q⟩).toArray:=Blk.ext hB1 hE2
 have hB2 : Blk w2 (g + 1) 49 (rcC ⟨p',l',n',q'⟩).toArray:=hB2
 have hE:=hE1.t hE2
 have a0 : w2.cell? ⟨g,0,none⟩ = some (.string (su p)):=hA2.cell 0
 have b0 : w2.cell? ⟨g + 1,0,none⟩ = some (.string (su p')):=hB2.cell 0
 have a1 : w2.cell? ⟨g,1,none⟩ = some (.int .i64 l):=hA2.cell 1
 have b1 : w2.cell? ⟨g + 1,1,none⟩ = some (.int .i64 l'):=hB2.cell 1
 have a14 : w2.cell? ⟨g,14,none⟩ = some (.int .i64 q):=hA2.cell 14
 have b14 : w2.cell? ⟨g + 1,14,none⟩ = some (.int .i64 q'):=hB2.cell 14
 by_cases h1 : p = p'
 ·rw [decide_eq_true h1]
  by_cases h2 : l = l'
  ·rw [decide_eq_true h2]
   by_cases h3 : q = q'
   ·rw [decide_eq_true h3]
    refine gz11 ?_
    refine xldz (cs:=ndC n) rfl rfl (rc_nd hA2) ?_
    refine goL ?_
    refine xldz (cs:=ndC n') rfl rfl (rc_nd hB2) ?_
    refine goL ?_
    refine xcallE rfl rfl (same_does w2 n n' (ha.ext hE) (hb.ext hE)) (fun r w3 h3=>?_)
    obtain ⟨rfl,hE3⟩:=h3
    exact y19
   ·rw [decide_eq_false h3]
    refine gz11 ?_
    exact y6
  ·rw [decide_eq_false h2]
   refine gz11 ?_
   exact y6
 ·exact y65
def TreR (w : World) (rl : List RcV) (whole : Str) (v : Value) (w' : World) : Prop:=Ext w w' ∧ match treeM (rl.map RcV.p) whole with
 | some t=>∃ ve vn nvs,v = .tuple #[.agg #[ve,vn],.int .i64 0] ∧ TrV w' ve vn nvs t
 | none=>v = .tuple #[.agg #[.slice none 0 0,.slice none 0 0],.int .i64 3]
theorem tree_dead {rl : List RcP} {whole : Str} (h : ∀ t,(if rl.length < 1 ∨ 100 < rl.length then none else guessM rl whole) = some t → ¬ (mayT t = true ∧ (recsM t).recs = rl ∧ (recsM t).whole = whole)) : treeM rl whole = none:=by
 unfold treeM
 by_cases hb : rl.length < 1 ∨ 100 < rl.length
 ·rw [if_pos hb]
 ·rw [if_neg hb]
  rw [if_neg hb] at h
  cases hg : guessM rl whole with
  | none=>rfl
  | some t=>exact if_neg (h t hg)
theorem tree_some {rl : List RcP} {whole : Str} {t : Tre} (h : (if rl.length < 1 ∨ 100 < rl.length then none else guessM rl whole) = some t) (h2 : mayT t = true ∧ (recsM t).recs = rl ∧ (recsM t).whole = whole) : treeM rl whole = some t:=by
 unfold treeM
 by_cases hb : rl.length < 1 ∨ 100 < rl.length
 ·rw [if_pos hb] at h;cases h
 ·rw [if_neg hb] at h ⊢
  rw [h]
  exact if_pos h2
structure TreI (w : World) (rl : List RcV) (whole : Str) (t : Tre) (g : Nat) (y : Nat × Nat × Value × List RcV × Value × Value × List NdV) (w' : World) : Prop where
 le : y.1 ≤ rl.length
 gl : g < y.2.1
 T : Blk w' y.2.1 25 #[y.2.2.2.2.1,y.2.2.2.2.2.1]
 R : Blk w' g 25 #[.slice none 0 0,.slice none 0 0]
 o : TrO w' (g + 1) y.2.2.2.2.1 y.2.2.2.2.2.1 y.2.2.2.2.2.2 t
 al : Rw rcC w' y.2.2.1 y.2.2.2.1
 ai : ∀ x ∈ y.2.2.2.1,NdIn w' x.nd
 ap : y.2.2.2.1.map RcV.p = (recsM t).recs
 ln : y.2.2.2.1.length = rl.length
 wh : (recsM t).whole = whole
 may : mayT t = true
 eq : (y.2.2.2.1.take y.1).map RcV.p = (rl.take y.1).map RcV.p
 ext : Ext w w'
theorem TrO.low {w : World} {B : Nat} {ve vn : Value} {nvs : List NdV} {t : Tre} (h : TrO w B ve vn nvs t) : ∀ b,TrO.blocks ve vn nvs b → B ≤ b:=fun b hb=>by
 rcases hb with hb | hb | ⟨x,hx,hb | hb | hb⟩
 ·exact (h.e.blk hb).1
 ·exact (h.n.blk hb).1
 ·exact ((h.i x hx).a.blk hb).1
 ·exact ((h.i x hx).c.blk hb).1
 ·exact ((h.i x hx).d.blk hb).1
theorem tree_does (w : World) (vr vw : Value) (rl : List RcV) (whole : Str) (hr : Rw rcC w vr rl) (hk : ∀ x ∈ rl,RcOK w x) (hW : Row w vw whole.length (bs whole)) (hwl : whole.length ≤ 1000000000) (hP : PowT w) : Does Tryz.prog 11 #[vr,vw] w (TreR w rl whole):=by
 refine does2 Tryz.func11 rfl (by kernel_rfl) ?_
 have hN : ∀ {a b c : World} {g : Nat},Ext a b → Fr (· = g) b c → a.heap.size ≤ g → Ext a c:=fun h1 h2 hg=>h1.trans h2 fun j hj e=>absurd hj (by omega)
 have hr0:=hr
 obtain ⟨A,c,rfl,hc1,hc2,hA⟩:=hr.op rcC_len
 obtain ⟨Aw,cw,rfl,hw1,hw2,hw3⟩:=hW
 have hW : Row w (.slice Aw whole.length cw) whole.length (bs whole):=⟨Aw,cw,rfl,hw1,hw2,hw3⟩
 have hml : (rl.map RcV.p).length = rl.length:=List.length_map _
 refine goL ?_
 refine xalloc (z:=.agg #[.slice none 0 0,.slice none 0 0]) (by kernel_rfl) (fun w1 hB1 hE1 hs1=>?_)
 obtain ⟨g,hg⟩ : ∃ g,g = w.heap.size:=⟨_,rfl⟩
 rw [← hg] at hB1 hs1 ⊢
 have hk1 : ∀ x ∈ rl,RcOK w1 x:=fun x hx=>⟨(hk x hx).i.ext hE1,(hk x hx).l,(hk x hx).b⟩
 have hgd:=guess_does w1 _ _ rl whole (hr0.ext hE1) hk1 (Row.ext hW hE1) hwl
 cases hgm : (if rl.length < 1 ∨ 100 < rl.length then none else guessM (rl.map RcV.p) whole) with
 | none=>
  have e : treeM (rl.map RcV.p) whole = none:=tree_dead fun t ht=>by rw [hml,hgm] at ht;cases ht
  refine goL ?_
  refine tscope0 ?_
  refine goL ?_
  refine xcallE rfl rfl hgd (fun v w2 h2=>?_)
  obtain ⟨hE2,h2⟩:=h2
  rw [hgm] at h2
  subst h2
  refine goL ?_
  refine xalloc (z:=.agg #[.slice none 0 0,.slice none 0 0]) (by kernel_rfl) (fun w3 hB3 hE3 hs3=>?_)
  refine xsta hB3 rfl rfl (by kernel_rfl) rfl (by kernel_rfl) (fun w4 hB4 hF4=>?_)
  have hE4 : Ext w2 w4:=hN hE3 hF4 (Nat.le_refl _)
  refine goL ?_
  refine xbd (cells:=#[.slice none 0 0,.slice none 0 0]) rfl (by kernel_rfl) ?_
  refine xsta (hB1.ext (hE2.t hE4)) rfl rfl (by kernel_rfl) rfl (by kernel_rfl) (fun w7 hB7 hF7=>?_)
  refine goL ?_
  refine tretc2 rfl rfl rfl hB7 (by kernel_rfl) ⟨hN ((hE1.t hE2).t hE4) hF7 (by omega),?_⟩
  rw [e]
 | some t=>
  have hgm' : (if (rl.map RcV.p).length < 1 ∨ 100 < (rl.map RcV.p).length then none else guessM (rl.map RcV.p) whole) = some t:=by rw [hml];exact hgm
  refine goL ?_
  refine tscope1 (α:=Nat × Nat × Value × List RcV × Value × Value × List NdV) 0 rfl (fun y=>[(0,.slice A rl.length c),(4,.pointer (some ⟨g,0,none⟩)),(6,.pointer (some ⟨y.2.1,0,none⟩)),(8,y.2.2.1),(11,.int .i64 (y.1 : Int))]) (TreI w rl whole t g) (fun y=>rl.length - y.1) ?_ ?_
  ·rintro ⟨i,gt,va,al,ve,vn,nvs⟩ w' h
   obtain ⟨hi,hgl,hT,hR,hO,hal,hai,hap,hln,hwh,hmay,heq,hE⟩:=h
   dsimp only at hi hgl hT hR hO hal hai hap hln heq ⊢
   have hal0:=hal
   obtain ⟨A2,c2,rfl,_,_,hA2⟩:=hal.op rcC_len
   by_cases hlt : i < rl.length
   ·obtain ⟨b,oo,r,rfl,_,hri,hdr,hce⟩:=hA.at_ hlt
    obtain ⟨b',oo',r',rfl,_,hri',hdr',hce'⟩:=hA2.at_ (i:=i) (by omega)
    have hEd : Ext w w'.drew:=hE.t (Fr.drew _ w')
    have hEd' : Ext w' w'.drew:=Fr.drew _ w'
    repeat' (first | refine xizq i (oo' + i * 15) rfl rfl rfl rfl rfl (by omega) ?_ | refine go1L ?_ | fail)
    refine xldz (cs:=rcC r') rfl rfl (fun j u hu=>hEd'.cell (hce' j u hu)) ?_
    refine gz26 ?_
    refine xldz (cs:=rcC r) rfl rfl (fun j u hu=>hEd.cell (hce j u hu)) ?_
    refine xcallE rfl rfl (recsame_does w'.drew r' r ((hai r' (List.mem_of_getElem? hri')).ext hEd') ((hk r (List.mem_of_getElem? hri)).i.ext hEd)) (fun v w3 h3=>?_)
    obtain ⟨rfl,hE3⟩:=h3
    have hE3':=hEd'.t hE3
    by_cases hs : r'.p = r.p
    ·rw [decide_eq_true hs]
     refine goL ?_
     exact tgoto rfl ⟨_,(by show rl.length - (i + 1) < rl.length - i;omega),rfl,(i + 1,gt,.slice (some ⟨b',oo',none⟩) al.length c2,al,ve,vn,nvs),sub ⟨rfl,rfl,rfl,rfl,ieq (by dsimp only;omega)⟩,⟨hlt,hgl,hT.ext hE3',hR.ext hE3',hO.ext hE3',Row.ext hal0 hE3',fun x hx=>(hai x hx).ext hE3',hap,hln,hwh,hmay,(by show (al.take (i + 1)).map RcV.p = (rl.take (i + 1)).map RcV.p;rw [take_one hri,take_one hri',List.map_append,List.map_append,heq,List.map_singleton,List.map_singleton,hs]),hE.t hE3'⟩,rfl⟩
    ·rw [decide_eq_false hs]
     have e : treeM (rl.map RcV.p) whole = none:=tree_dead fun t' ht ⟨_,h5,_⟩=>hs (by
      rw [hgm'] at ht
      obtain rfl:=Option.some.inj ht
      have h6 : (al.map RcV.p)[i]? = (rl.map RcV.p)[i]?:=by rw [hap,h5]
      rw [List.getElem?_map,List.getElem?_map,hri,hri'] at h6
      exact Option.some.inj h6)
     refine goL ?_
     refine xbd (cells:=#[.slice none 0 0,.slice none 0 0]) rfl (by kernel_rfl) ?_
     refine xsta (hR.ext hE3') rfl rfl (by kernel_rfl) rfl (by kernel_rfl) (fun w7 hB7 hF7=>?_)
     refine goL ?_
     refine tretc2 rfl rfl rfl hB7 (by kernel_rfl) ⟨hN (hE.t hE3') hF7 (by omega),?_⟩
     rw [e]
   ·have hie : i = rl.length:=by omega
    have e : treeM (rl.map RcV.p) whole = some t:=tree_some hgm' ⟨hmay,by
     rw [← hap]
     rw [hie,List.take_length,← hln,List.take_length] at heq
     exact heq,hwh⟩
    have hv1 : (#[ve,vn] : Array Value).all (·.oneCell') = true:=by
     obtain ⟨A3,c3,rfl,_⟩:=hO.e.form
     obtain ⟨A4,c4,rfl,_⟩:=hO.n.form
     exact y49
    refine goL ?_
    refine xlda (t:=25) hT rfl rfl ?_
    refine xsta hR rfl rfl (by kernel_rfl) rfl hv1 (fun w7 hB7 hF7=>?_)
    refine goL ?_
    refine tretc2 rfl rfl rfl hB7 (by kernel_rfl) ⟨hN hE hF7 (by omega),?_⟩
    rw [e]
    exact ⟨_,_,nvs,rfl,(hO.awayB hF7 (fun b hb e=>by have:=hO.low b hb;omega)).v⟩
  ·intro H
   refine goL ?_
   refine xcallE rfl rfl hgd (fun v w2 h2=>?_)
   obtain ⟨hE2,h2⟩:=h2
   rw [hgm] at h2
   obtain ⟨ve,vn,nvs,rfl,hO,hns,hnd,hel⟩:=h2
   have hv1 : (#[ve,vn] : Array Value).all (·.oneCell') = true:=by
    obtain ⟨A3,c3,rfl,_⟩:=hO.e.form
    obtain ⟨A4,c4,rfl,_⟩:=hO.n.form
    exact y49
   have z2:=hE2.size
   refine goL ?_
   refine xalloc (z:=.agg #[.slice none 0 0,.slice none 0 0]) (by kernel_rfl) (fun w3 hB3 hE3 hs3=>?_)
   refine xsta hB3 rfl rfl (by kernel_rfl) rfl hv1 (fun w4 hB4 hF4=>?_)
   have hE4 : Ext w2 w4:=hN hE3 hF4 (Nat.le_refl _)
   obtain ⟨gt,hgt⟩ : ∃ gt,gt = w2.heap.size:=⟨_,rfl⟩
   rw [← hgt] at hB4 ⊢
   have hR4:=hB1.ext (hE2.t hE4)
   have hE04:=(hE1.t hE2).t hE4
   have hO4:=hO.ext hE4
   rw [hs1] at hO4
   refine goL ?_
   refine xlda (t:=25) hB4 rfl rfl ?_
   refine xcallE rfl rfl (recs_does w4 ve vn nvs t hO4.v hns hnd (hP.ext hE04)) (fun v w5 h5=>?_)
   obtain ⟨hE5,h5⟩:=h5
   have hT5:=hB4.ext hE5
   have hR5:=hR4.ext hE5
   have hO5:=hO4.ext hE5
   have hE05:=hE04.t hE5
   by_cases hm : mayT t = true
   ·rw [if_pos hm] at h5
    obtain ⟨va,vb,al,rfl,hal,hap,hai,hwb⟩:=h5
    obtain ⟨A2,c2,rfl,_,_⟩:=hal.form
    have hwb':=Own.row hwb
    have hbl : (bs (recsM t).whole).length = (recsM t).whole.length:=bs_len _
    obtain ⟨Ab,cb,rfl,hb1,hb2,hb3⟩:=hwb'
    have hwb' : Row w5 (.slice Ab (bs (recsM t).whole).length cb) (recsM t).whole.length (bs (recsM t).whole):=by rw [← hbl];exact ⟨Ab,cb,rfl,hb1,hb2,hb3⟩
    have hrl : al.length = (recsM t).recs.length:=by rw [← hap,List.length_map]
    by_cases hln : al.length = rl.length
    ·refine goL ?_
     refine xcallE rfl rfl (equal_by w5 _ _ (recsM t).whole whole hwb' (Row.ext hW hE05)) (fun v w6 h6=>?_)
     obtain ⟨rfl,hE6⟩:=h6
     have hE06:=hE05.t hE6
     by_cases hwe : (recsM t).whole = whole
     ·rw [decide_eq_true hwe]
      refine goL ?_
      refine tlabel ?_
      exact tweak (H (0,gt,.slice A2 al.length c2,al,ve,vn,nvs) w6 ⟨Nat.zero_le _,by show g < gt;omega,hT5.ext hE6,hR5.ext hE6,hO5.ext hE6,Row.ext hal.rw hE6,fun x hx=>(hai x hx).i.ext hE6,hap,hln,hwe,hm,rfl,hE06⟩) (sub ⟨rfl,rfl,rfl,rfl,rfl⟩)
     ·have e : treeM (rl.map RcV.p) whole = none:=tree_dead fun t' ht ⟨_,_,h5⟩=>hwe (by
       rw [hgm'] at ht
       obtain rfl:=Option.some.inj ht
       exact h5)
      rw [decide_eq_false hwe]
      refine goL ?_
      refine xbd (cells:=#[.slice none 0 0,.slice none 0 0]) rfl (by kernel_rfl) ?_
      refine xsta (hR5.ext hE6) rfl rfl (by kernel_rfl) rfl (by kernel_rfl) (fun w7 hB7 hF7=>?_)
      refine goL ?_
      refine tretc2 rfl rfl rfl hB7 (by kernel_rfl) ⟨hN hE06 hF7 (by omega),?_⟩
      rw [e]
    ·have e : treeM (rl.map RcV.p) whole = none:=tree_dead fun t' ht ⟨_,h5,_⟩=>hln (by
      rw [hgm'] at ht
      obtain rfl:=Option.some.inj ht
      rw [hrl,h5,List.length_map])
     refine goL ?_
     refine xbd (cells:=#[.slice none 0 0,.slice none 0 0]) rfl (by kernel_rfl) ?_
     refine xsta hR5 rfl rfl (by kernel_rfl) rfl (by kernel_rfl) (fun w7 hB7 hF7=>?_)
     refine goL ?_
     refine tretc2 rfl rfl rfl hB7 (by kernel_rfl) ⟨hN hE05 hF7 (by omega),?_⟩
     rw [e]
   ·rw [if_neg hm] at h5
    subst h5
    have e : treeM (rl.map RcV.p) whole = none:=tree_dead fun t' ht ⟨h5,_⟩=>hm (by
     rw [hgm'] at ht
     obtain rfl:=Option.some.inj ht
     exact h5)
    refine goL ?_
    refine xbd (cells:=#[.slice none 0 0,.slice none 0 0]) rfl (by kernel_rfl) ?_
    refine xsta hR5 rfl rfl (by kernel_rfl) rfl (by kernel_rfl) (fun w7 hB7 hF7=>?_)
    refine goL ?_
    refine tretc2 rfl rfl rfl hB7 (by kernel_rfl) ⟨hN hE05 hF7 (by omega),?_⟩
    rw [e]
end
end Go.Proofs.YtbpmlbjapapoaaaGreatDoor.Eng
