/-
  Parts of the proof: Ak.
-/
import Derived.Test.YtbpmlbjapapoaaaGreatDoorRAj
set_option maxRecDepth 100000
set_option maxHeartbeats 64000000
namespace Go.Proofs.YtbpmlbjapapoaaaGreatDoor.Eng
open Go.RowKit
section
open Go.RowKit Go.Lib
attribute [local irreducible] xs T
section
variable {hs : List Nat} {H : World → Prop} {full : Array Oper} {K : Env → World → Prop} {rest : List Oper} {env : Env} {w : World} {d : Tmp} {ty : TypeId} {pos : String} {af : Array Edge}
theorem xdecK {op : BinOp} {t yt : TypeId} {x y : Operand} {k : IntKind} {a b : Int} {p : Prop} (r : Bool) (hx : evo env x = some (.int k a)) (hy : evo env y = some (.int k b)) (hr : cmpP op a b = some p) (hd : r = true ↔ p)
  (h : xs Tryz.prog isI isS hs H full K rest ((d,.bool r) :: env) w) : xs Tryz.prog isI isS hs H full K (⟨some d,.binOp op t x y yt,ty,pos,af,none⟩ :: rest) env w:=by
 cases r with
 | true=>exact xct hx hy hr (hd.1 rfl) h
 | false=>exact xcf hx hy hr (fun hp=>by have:=hd.2 hp;cases this) h
end
theorem gstp_none (whole : Str) : ∀ l : List RcP,l.foldl (gstp whole) none = none
 | []=>rfl
 | _ :: r=>by
  rw [List.foldl_cons]
  exact gstp_none whole r
theorem recOK_pos {r : RcP} (h : recOK r = true) : mayP r.path = true ∧ 0 ≤ r.lead ∧ r.lead < 100 ∧ 0 ≤ r.pos ∧ r.pos ≤ 400000:=by
 unfold recOK at h
 simp only [Bool.and_eq_true,decide_eq_true_eq] at h
 exact ⟨h.1.1.1.1.1,h.1.1.1.1.2,h.1.1.1.2,h.1.1.2,h.1.2⟩
theorem recOK_data {r : RcP} (h : recOK r = true) : lensOK r.nd.data = true ∧ r.nd.data.length ≤ 16 ∧ r.nd.target.length ≤ 200:=by
 unfold recOK at h
 rw [Bool.and_eq_true] at h
 have h2:=h.2
 by_cases hz : r.nd = ndZ
 ·rw [hz];exact ⟨rfl,Nat.zero_le _,Nat.zero_le _⟩
 ·rw [if_neg hz] at h2
  cases hf : fullN r.nd with
  | none=>rw [hf] at h2;cases h2
  | some m=>
   rw [hf] at h2
   dsimp only at h2
   rw [Bool.and_eq_true] at h2
   obtain ⟨d1,_,_,d4,_,d6⟩:=nodeOK_data h2.1
   unfold fullN at hf
   by_cases hk : r.nd.kind ≠ 2
   ·rw [if_pos hk] at hf
    have hf:=Option.some.inj hf
    subst hf
    rcases d4 with hk2 | hd
    ·exact absurd hk2 hk
    ·rw [hd];exact ⟨rfl,Nat.zero_le _,d6⟩
   ·rw [if_neg hk] at hf
    by_cases h16 : 16 < r.nd.data.length
    ·rw [if_pos h16] at hf;cases hf
    ·rw [if_neg h16] at hf
     by_cases hl : lensOK r.nd.data = true
     ·rw [if_pos hl] at hf
      have hf:=Option.some.inj hf
      rw [← hf] at d6
      exact ⟨hl,by omega,d6⟩
     ·rw [if_neg hl] at hf;cases hf
theorem filP_len : ∀ {l d : List Pce} {whole : Str} {i : Nat},filP whole i l = some d → d.length = l.length ∧ bytesP d ≤ 4000 * l.length
 | [],d,_,_,h=>by
  obtain rfl:=Option.some.inj h
  exact ⟨rfl,Nat.zero_le _⟩
 | p :: r,d,whole,i,h=>by
  rw [filP] at h
  split at h
  ·cases hr : filP whole (i + lenS p.data) r with
   | none=>rw [hr] at h;cases h
   | some d'=>
    rw [hr] at h
    obtain rfl:=Option.some.inj h
    obtain ⟨h1,h2⟩:=filP_len hr
    refine ⟨by rw [List.length_cons,List.length_cons,h1],?_⟩
    rw [bytesP,List.length_cons]
    have:=lenS_le p.data
    have : ((whole.drop i).take (lenS p.data)).length ≤ 4000:=by rw [List.length_take];omega
    dsimp only
    omega
  ·cases h
theorem rc_one {w : World} {r : RcV} (h : NdIn w r.nd) : (rcC r).all (·.oneCell') = true:=by
 unfold rcC
 rw [List.all_cons,List.all_cons,List.all_append,one_nd h]
 rfl
structure RcOK (w : World) (r : RcV) : Prop where
 i : NdIn w r.nd
 l : NdL r.nd.n
 b : bytesP r.nd.n.data ≤ 1000000
structure GuI (w : World) (rl : List RcV) (whole : Str) (g : Nat) (y : Nat × Value × Value × List NdV × Tre) (w' : World) : Prop where
 le : y.1 ≤ rl.length
 T : Blk w' (g + 1) 25 #[y.2.1,y.2.2.1]
 R : Blk w' g 25 #[.slice none 0 0,.slice none 0 0]
 o : TrO w' w.heap.size y.2.1 y.2.2.1 y.2.2.2.1 y.2.2.2.2
 go : ((rl.take y.1).map RcV.p).foldl (gstp whole) (some ⟨[],[]⟩) = some y.2.2.2.2
 el : y.2.2.2.2.es.length = y.1
 nl : y.2.2.2.2.ns.length ≤ y.1
 ns : NsOK y.2.2.2.2.ns
 nd : ∀ n ∈ y.2.2.2.2.ns,NdL n
 ext : Ext w w'
def GueR (w : World) (rl : List RcV) (whole : Str) (v : Value) (w' : World) : Prop:=Ext w w' ∧ match (if rl.length < 1 ∨ 100 < rl.length then none else guessM (rl.map RcV.p) whole) with
 | some t=>∃ ve vn nvs,v = .tuple #[.agg #[ve,vn],.bool true] ∧ TrO w' w.heap.size ve vn nvs t ∧ NsOK t.ns ∧ (∀ n ∈ t.ns,NdL n) ∧ t.es.length = rl.length
 | none=>v = .tuple #[.agg #[.slice none 0 0,.slice none 0 0],.bool false]
theorem guess_dead {rl : List RcV} {whole : Str} {i : Nat} {t : Tre} {r : RcV} (hr : rl[i]? = some r) (hgo : ((rl.take i).map RcV.p).foldl (gstp whole) (some ⟨[],[]⟩) = some t) (hd : gstp whole (some t) r.p = none) : guessM (rl.map RcV.p) whole = none:=by
 have hi : i < rl.length:=(List.getElem?_eq_some_iff.1 hr).1
 have e : rl = rl.take i ++ r :: rl.drop (i + 1):=by
  conv=>lhs;rw [← List.take_append_drop i rl]
  congr 1
  rw [List.drop_eq_getElem_cons hi];congr 1
  exact (List.getElem?_eq_some_iff.1 hr).2
 unfold guessM
 rw [e,List.map_append,List.foldl_append,hgo,List.map_cons,List.foldl_cons,hd,gstp_none]
theorem guess_step {rl : List RcV} {whole : Str} {i : Nat} {t t' : Tre} {r : RcV} (hr : rl[i]? = some r) (hgo : ((rl.take i).map RcV.p).foldl (gstp whole) (some ⟨[],[]⟩) = some t) (hd : gstp whole (some t) r.p = some t') : ((rl.take (i + 1)).map RcV.p).foldl (gstp whole) (some ⟨[],[]⟩) = some t':=by
 rw [take_one hr,List.map_append,List.foldl_append,hgo]
 exact hd
theorem TrO.none (w : World) (B : Nat) : TrO w B (.slice none 0 0) (.slice none 0 0) [] ⟨[],[]⟩:=⟨Ow.nil _ _ _,Ow.nil _ _ _,nofun,rfl⟩
theorem TrO.away {S : Nat → Prop} {w w' : World} {B : Nat} {ve vn : Value} {nvs : List NdV} {t : Tre} (h : TrO w B ve vn nvs t) (hf : Fr S w w') (hS : ∀ b ty cs,Blk w b ty cs → (ty = 53 ∨ ty = 47 ∨ ty = 78 ∨ ty = 80 ∨ ty = 65) → ¬ S b) : TrO w' B ve vn nvs t:=
 ⟨h.e.fr hf fun b hb=>by obtain ⟨cs,hc⟩:=h.e.typ hb;exact hS b _ cs hc (.inl rfl),h.n.fr hf fun b hb=>by obtain ⟨cs,hc⟩:=h.n.typ hb;exact hS b _ cs hc (.inr (.inl rfl)),fun x hx=>(h.i x hx).fr hf fun b hb=>by
  rcases hb with hb | hb | hb
  ·obtain ⟨cs,hc⟩:=(h.i x hx).a.typ hb;exact hS b _ cs hc (.inr (.inr (.inl rfl)))
  ·obtain ⟨cs,hc⟩:=(h.i x hx).c.typ hb;exact hS b _ cs hc (.inr (.inr (.inr (.inl rfl))))
  ·obtain ⟨cs,hc⟩:=(h.i x hx).d.typ hb;exact hS b _ cs hc (.inr (.inr (.inr (.inr rfl)))),h.m⟩
theorem NdO.awayN {S : Nat → Prop} {w w' : World} {B : Nat} {x : NdV} (h : NdO w B x) (hf : Fr S w w') (hS : ∀ b ty cs,Blk w b ty cs → (ty = 78 ∨ ty = 80 ∨ ty = 65) → ¬ S b) : NdO w' B x:=h.fr hf fun b hb=>by
 rcases hb with hb | hb | hb
 ·obtain ⟨cs,hc⟩:=h.a.typ hb;exact hS b _ cs hc (.inl rfl)
 ·obtain ⟨cs,hc⟩:=h.c.typ hb;exact hS b _ cs hc (.inr (.inl rfl))
 ·obtain ⟨cs,hc⟩:=h.d.typ hb;exact hS b _ cs hc (.inr (.inr rfl))
def TrO.blocks (ve vn : Value) (nvs : List NdV) (b : Nat) : Prop:=ve.ownBlock = some b ∨ vn.ownBlock = some b ∨ ∃ x ∈ nvs,x.va.ownBlock = some b ∨ x.vc.ownBlock = some b ∨ x.vd.ownBlock = some b
theorem TrO.bound {w : World} {B : Nat} {ve vn : Value} {nvs : List NdV} {t : Tre} (h : TrO w B ve vn nvs t) : ∀ b,TrO.blocks ve vn nvs b → b < w.heap.size:=fun b hb=>by
 rcases hb with hb | hb | ⟨x,hx,hb | hb | hb⟩
 ·exact (h.e.blk hb).2
 ·exact (h.n.blk hb).2
 ·exact ((h.i x hx).a.blk hb).2
 ·exact ((h.i x hx).c.blk hb).2
 ·exact ((h.i x hx).d.blk hb).2
theorem TrO.awayB {S : Nat → Prop} {w w' : World} {B : Nat} {ve vn : Value} {nvs : List NdV} {t : Tre} (h : TrO w B ve vn nvs t) (hf : Fr S w w') (hS : ∀ b,TrO.blocks ve vn nvs b → ¬ S b) : TrO w' B ve vn nvs t:=
 ⟨h.e.fr hf fun b hb=>hS b (.inl hb),h.n.fr hf fun b hb=>hS b (.inr (.inl hb)),fun x hx=>(h.i x hx).fr hf fun b hb=>hS b (.inr (.inr ⟨x,hx,hb⟩)),h.m⟩
structure GuM (w : World) (rp : RcP) (whole : Str) (t : Tre) (i g g9 : Nat) (y : Int × Value × Value × List NdV × Tre) (w' : World) : Prop where
 T : Blk w' (g + 1) 25 #[y.2.1,y.2.2.1]
 R : Blk w' g 25 #[.slice none 0 0,.slice none 0 0]
 E : Blk w' g9 53 (enC ⟨rp.path,y.1⟩).toArray
 o : TrO w' w.heap.size y.2.1 y.2.2.1 y.2.2.2.1 y.2.2.2.2
 st : gstp whole (some t) rp = some ⟨y.2.2.2.2.es ++ [⟨rp.path,y.1⟩],y.2.2.2.2.ns⟩
 el : y.2.2.2.2.es.length = i
 nl : y.2.2.2.2.ns.length ≤ i + 1
 ns : NsOK y.2.2.2.2.ns
 nd : ∀ n ∈ y.2.2.2.2.ns,NdL n
 ext : Ext w w'
theorem guess_does (w : World) (vr vw : Value) (rl : List RcV) (whole : Str) (hr : Rw rcC w vr rl) (hk : ∀ x ∈ rl,RcOK w x) (hW : Row w vw whole.length (bs whole)) (hwl : whole.length ≤ 1000000000) : Does Tryz.prog 24 #[vr,vw] w (GueR w rl whole):=by
 refine does2 Tryz.func24 rfl (by kernel_rfl) ?_
 have hN : ∀ {a b c : World} {g : Nat},Ext a b → Fr (· = g) b c → a.heap.size ≤ g → Ext a c:=fun h1 h2 hg=>h1.trans h2 fun j hj e=>absurd hj (by omega)
 obtain ⟨A,c,rfl,hc1,hc2,hA⟩:=hr.op rcC_len
 obtain ⟨Aw,cw,rfl,hw1,hw2,hw3⟩:=hW
 have hW : Row w (.slice Aw whole.length cw) whole.length (bs whole):=⟨Aw,cw,rfl,hw1,hw2,hw3⟩
 refine goL ?_
 refine xalloc (z:=.agg #[.slice none 0 0,.slice none 0 0]) (by kernel_rfl) (fun w1 hB1 hE1 hs1=>?_)
 obtain ⟨g,hg⟩ : ∃ g,g = w.heap.size:=⟨_,rfl⟩
 rw [← hg] at hB1 hs1 ⊢
 by_cases hbad : rl.length < 1 ∨ 100 < rl.length
 ·by_cases h1 : rl.length < 1
  ·refine goL ?_
   refine tscope0 ?_
   refine goL ?_
   refine xbd (cells:=#[.slice none 0 0,.slice none 0 0]) rfl (by kernel_rfl) ?_
   refine xsta hB1 rfl rfl (by kernel_rfl) rfl (by kernel_rfl) (fun w7 hB7 hF7=>?_)
   refine goL ?_
   refine tretc2 rfl rfl rfl hB7 (by kernel_rfl) ⟨hN hE1 hF7 (by omega),?_⟩
   rw [if_pos hbad]
  ·have h2 : 100 < rl.length:=by omega
   refine goL ?_
   refine tscope0 ?_
   refine goL ?_
   refine xbd (cells:=#[.slice none 0 0,.slice none 0 0]) rfl (by kernel_rfl) ?_
   refine xsta hB1 rfl rfl (by kernel_rfl) rfl (by kernel_rfl) (fun w7 hB7 hF7=>?_)
   refine goL ?_
   refine tretc2 rfl rfl rfl hB7 (by kernel_rfl) ⟨hN hE1 hF7 (by omega),?_⟩
   rw [if_pos hbad]
 have h1 : 1 ≤ rl.length:=by omega
 have h2 : rl.length ≤ 100:=by omega
 unfold GueR
 rw [if_neg hbad]
 refine goL ?_
 refine tscope1 (α:=Nat × Value × Value × List NdV × Tre) 0 rfl (fun y=>[(0,.slice A rl.length c),(1,.slice Aw whole.length cw),(4,.pointer (some ⟨g,0,none⟩)),(6,.pointer (some ⟨g + 1,0,none⟩)),(7,.int .i64 (y.1 : Int))]) (GuI w rl whole g) (fun y=>rl.length - y.1) ?_ ?_
 ·rintro ⟨i,ve,vn,nvs,t⟩ w' h
  obtain ⟨hi,hT,hR,hO,hgo,hel,hnl,hns,hnd,hE⟩:=h
  dsimp only at hi hT hR hO hgo hel hnl hns hnd ⊢
  have z0:=hE.size
  have hm:=hO.m
  have hnvl : nvs.length = t.ns.length:=by rw [← hm,List.length_map]
  obtain ⟨A1,c1,rfl,_,_⟩:=hO.e.form
  obtain ⟨A2,c2,rfl,_,_⟩:=hO.n.form
  by_cases hlt : i < rl.length
  ·obtain ⟨b,oo,r,rfl,_,hri,hdr,hce⟩:=hA.at_ hlt
   obtain ⟨hrI,hrL,hrB⟩:=hk r (List.mem_of_getElem? hri)
   refine gz26 ?_
   refine xldz (cs:=rcC r) rfl rfl (fun j u hu=>hE.cell (hce j u hu)) ?_
   refine xalloc (z:=.agg (rcC ⟨[],0,ndZV,0⟩).toArray) (by kernel_rfl) (fun w2 hB2 hE2 hs2=>?_)
   refine xsta (cs:=(rcC r).toArray) hB2 rfl rfl (by kernel_rfl) rfl (one_cells (rc_one hrI)) (fun w3 hB3 hF3=>?_)
   have hE3 : Ext w' w3:=hN hE2 hF3 (Nat.le_refl _)
   obtain ⟨g8,hg8⟩ : ∃ g8,g8 = w'.heap.size:=⟨_,rfl⟩
   rw [← hg8] at hB3 ⊢
   have hE03:=hE.t hE3
   refine goL ?_
   refine xlda (t:=49) hB3 rfl (by rw [List.size_toArray,rcC_len];kernel_rfl) ?_
   refine xcallE rfl rfl (recmay_does w3 r (hrI.ext hE03) hrB) (fun v w4 h4=>?_)
   obtain ⟨rfl,hE4⟩:=h4
   have hB4:=hB3.ext hE4
   have hE'4:=hE3.t hE4
   have hE04:=hE03.t hE4
   have hT4:=hT.ext hE'4
   have hR4:=hR.ext hE'4
   have hO4:=hO.ext hE'4
   have z4:=hE'4.size
   have g8l:=hB4.lt
   have k1 : w4.cell? ⟨g8,1,none⟩ = some (.int .i64 r.lead):=hB4.cell 1
   by_cases hok : recOK r.p = true ∧ r.lead ≤ (i : Int)
   ·obtain ⟨hok,hli⟩:=hok
    rw [hok]
    obtain ⟨hmp,hl0,hl1,hp0,hp1⟩:=recOK_pos hok
    obtain ⟨hlens,h16,h200⟩:=recOK_data hok
    have hl0 : 0 ≤ r.lead:=hl0
    have hp0 : 0 ≤ r.pos:=hp0
    have hp1 : r.pos ≤ 400000:=hp1
    have hlens : lensOK r.nd.n.data = true:=hlens
    have h16 : r.nd.n.data.length ≤ 16:=h16
    have k0 : w4.cell? ⟨g8,0,none⟩ = some (.string (su r.path)):=hB4.cell 0
    have kn : w4.cell? ⟨g + 1,1,none⟩ = some (.slice A2 nvs.length c2):=hT4.cell 1
    refine goL ?_
    refine xbd (cells:=(enC ⟨r.path,(nvs.length : Int)⟩).toArray) rfl (by kernel_rfl) ?_
    refine xalloc (z:=.agg #[.string ⟨#[]⟩,.int .i64 0]) (by kernel_rfl) (fun w5 hB5 hE5 hs5=>?_)
    refine xsta (cs:=(enC ⟨r.path,(nvs.length : Int)⟩).toArray) hB5 rfl rfl rfl rfl (one_cells (l:=enC ⟨r.path,(nvs.length : Int)⟩) rfl) (fun w6 hB6 hF6=>?_)
    have hE6 : Ext w4 w6:=hN hE5 hF6 (Nat.le_refl _)
    obtain ⟨g9,hg9⟩ : ∃ g9,g9 = w4.heap.size:=⟨_,rfl⟩
    rw [← hg9] at hB6 ⊢
    have hB86:=hB4.ext hE6
    have hT6:=hT4.ext hE6
    have hR6:=hR4.ext hE6
    have hO6:=hO4.ext hE6
    have hE06:=hE04.t hE6
    have z6:=hE6.size
    have k1 : w6.cell? ⟨g8,1,none⟩ = some (.int .i64 r.lead):=hB86.cell 1
    have hel' : (t.es.length : Int) = (i : Int):=by rw [hel]
    have tyT : ∀ {b ty : Nat} {cs : Array Value},Blk w6 b ty cs → ty ≠ 25 → b ≠ g + 1:=fun h hne e=>h.ne_ hT6 hne e
    refine goL ?_
    refine xdecK (p:=r.lead < (i : Int)) (decide (r.lead < (i : Int))) rfl rfl rfl decide_eq_true_iff ?_
    refine gz0 ?_
    refine tcut (α:=Int × Value × Value × List NdV × Tre) (fun y=>[(0,.slice (some ⟨b,oo,none⟩) rl.length c),(1,.slice Aw whole.length cw),(4,.pointer (some ⟨g,0,none⟩)),(6,.pointer (some ⟨g + 1,0,none⟩)),(7,.int .i64 (i : Int)),(9,.pointer (some ⟨g9,0,none⟩))]) (GuM w r.p whole t i g g9) ?_ ?_
    ·refine tcs rfl (fun hct=>?_) (fun hcf=>?_)
     ·have hll : r.lead < (i : Int):=of_decide_eq_true hct
      obtain ⟨k,hkl⟩:=Int.eq_ofNat_of_zero_le hl0
      have hkt : k < t.es.length:=by omega
      obtain ⟨A3,c3,e3,_,_,hAe⟩:=hO6.e.rw.op enC_len
      injection e3 with e3 _ e4
      subst e3;subst e4
      obtain ⟨be,oe,ek,rfl,_,hek,_,hcek⟩:=hAe.at_ hkt
      have hd : gstp whole (some t) r.p = some ⟨t.es ++ [⟨r.path,ek.node⟩],t.ns⟩:=by
       unfold gstp
       dsimp only
       have e1 : (RcV.p r).lead = r.lead:=rfl
       rw [hok,e1,hel',Bool.true_and,if_pos (decide_eq_true hli),if_pos hll,hkl,Int.toNat_natCast,List.getD_eq_getElem?_getD,hek]
       rfl
      have ke : w6.cell? ⟨g + 1,0,none⟩ = some (.slice (some ⟨be,oe,none⟩) t.es.length c1):=hT6.cell 0
      have kk : w6.cell? ⟨be,oe + k * 2 + 1,none⟩ = some (.int .i64 ek.node):=hcek 1 _ rfl
      repeat' (first | refine xizq k (oe + k * 2) rfl rfl rfl hkl rfl hkt ?_ | refine go1L ?_ | fail)
      refine xstb hB6 rfl rfl (by kernel_rfl) rfl rfl (fun w7 hB7 hF7=>?_)
      have g9l : w4.heap.size ≤ g9:=by omega
      have hOa : TrO w7 w.heap.size (.slice (some ⟨be,oe,none⟩) t.es.length c1) (.slice A2 nvs.length c2) nvs t:=hO6.awayB hF7 (fun b hb=>by have:=hO4.bound b hb;omega)
      refine goL ?_
      exact tfin ⟨(ek.node,.slice (some ⟨be,oe,none⟩) t.es.length c1,.slice A2 nvs.length c2,nvs,t),sub ⟨rfl,rfl,rfl,rfl,rfl,rfl⟩,⟨hT6.fr hF7 (fun e=>by have:=hT4.lt;omega),hR6.fr hF7 (fun e=>by have:=hR4.lt;omega),hB7,hOa,hd,hel,by show t.ns.length ≤ i + 1;omega,hns,hnd,hN hE06 hF7 (by omega)⟩⟩
     ·have hll : ¬ r.lead < (i : Int):=of_decide_eq_false hcf
      have hd : ∀ o,filP whole r.pos.toNat r.nd.n.data = o → gstp whole (some t) r.p = match o with
        | none=>none
        | some d=>some ⟨t.es ++ [⟨r.path,(t.ns.length : Int)⟩],t.ns ++ [{ r.nd.n with data:=d }]⟩:=fun o ho=>by
       unfold gstp
       dsimp only
       have e1 : (RcV.p r).lead = r.lead:=rfl
       have e2 : filP whole (RcV.p r).pos.toNat (RcV.p r).nd.data = o:=ho
       rw [hok,e1,hel',Bool.true_and,if_pos (decide_eq_true hli),if_neg hll,e2]
       rfl
      refine goL ?_
      refine xlda (t:=49) hB86 rfl (by rw [List.size_toArray,rcC_len];kernel_rfl) ?_
      refine goL ?_
      refine xcallE rfl rfl (filled_does w6 r _ whole (hrI.ext hE06) hrL hlens hp0 hp1 (Row.ext hW hE06) hwl) (fun v w7 h7=>?_)
      obtain ⟨hE7,h7⟩:=h7
      have hT7:=hT6.ext hE7
      have hR7:=hR6.ext hE7
      have hO7:=hO6.ext hE7
      have hB7:=hB6.ext hE7
      have hE07:=hE06.t hE7
      have z7:=hE7.size
      cases hf : filP whole r.pos.toNat r.nd.n.data with
      | none=>
       rw [hf] at h7
       subst h7
       refine goL ?_
       refine xalloc (z:=.agg (ndC ndZV).toArray) (by kernel_rfl) (fun w8 hB8 hE8 hs8=>?_)
       refine xsta hB8 rfl rfl (by kernel_rfl) rfl (by kernel_rfl) (fun w9 hB9 hF9=>?_)
       have hE9 : Ext w7 w9:=hN hE8 hF9 (Nat.le_refl _)
       refine goL ?_
       refine xbd (cells:=#[.slice none 0 0,.slice none 0 0]) rfl (by kernel_rfl) ?_
       refine xsta (hR7.ext hE9) rfl rfl (by kernel_rfl) rfl (by kernel_rfl) (fun w10 hB10 hF10=>?_)
       refine goL ?_
       refine tretc2 rfl rfl rfl hB10 (by kernel_rfl) ⟨hN (hE07.t hE9) hF10 (by omega),?_⟩
       rw [guess_dead hri hgo (hd _ hf)]
      | some d=>
       rw [hf] at h7
       obtain ⟨⟨xn,xa,xc,xd⟩,rfl,hxn,hxO⟩:=h7
       dsimp only at hxn
       obtain ⟨Aa,ca,e1,_,_⟩:=hxO.a.form
       obtain ⟨Ac,cc,e2,_,_⟩:=hxO.c.form
       obtain ⟨Ad,cd,e3,_,_⟩:=hxO.d.form
       dsimp only at e1 e2 e3
       subst e1;subst e2;subst e3
       obtain ⟨fl1,fl2⟩:=filP_len hf
       refine goL ?_
       refine xalloc (z:=.agg (ndC ndZV).toArray) (by kernel_rfl) (fun w8 hB8 hE8 hs8=>?_)
       refine xsta hB8 rfl rfl (by kernel_rfl) rfl (one_cells (l:=ndC ⟨xn,.slice Aa xn.attrs.length ca,.slice Ac xn.acl.length cc,.slice Ad xn.data.length cd⟩) rfl) (fun w9 hB9 hF9=>?_)
       have hE9 : Ext w7 w9:=hN hE8 hF9 (Nat.le_refl _)
       obtain ⟨g10,hg10⟩ : ∃ g10,g10 = w7.heap.size:=⟨_,rfl⟩
       rw [← hg10] at hB9 ⊢
       have hT9:=hT7.ext hE9
       have hR9:=hR7.ext hE9
       have hO9:=hO7.ext hE9
       have hEn9:=hB7.ext hE9
       have hx9:=hxO.ext hE9
       have hE09:=hE07.t hE9
       have z9:=hE9.size
       have kn : w9.cell? ⟨g + 1,1,none⟩ = some (.slice A2 nvs.length c2):=hT9.cell 1
       refine goL ?_
       refine xlda (t:=47) hB9 rfl rfl ?_
       refine xbz1 sl_nds rfl rfl (by decide) (by decide) (fun w10 hB10 hE10 hs10=>?_)
       have hE010:=hE09.t hE10
       have hO10:=hO9.ext hE10
       have hx10:=hx9.ext hE10
       have z10:=hE10.size
       refine xapz (B:=w.heap.size) (news:=ndC ⟨xn,.slice Aa xn.attrs.length ca,.slice Ac xn.acl.length cc,.slice Ad xn.data.length cd⟩) sl_nds rfl (by decide) rfl hO10.n rfl (blk_row hB10 (by decide) rfl) rfl (List.all_eq_true.1 (rfl : (ndC ⟨xn,.slice Aa xn.attrs.length ca,.slice Ac xn.acl.length cc,.slice Ad xn.data.length cd⟩).all (·.oneCell') = true)) (by unfold maxLen;omega) (by omega) hE010.size (fun v11 w11 hO11 hF11 _=>?_)
       have hO11' : Ow ndC 12 w11 w.heap.size 47 v11 (nvs ++ [⟨xn,.slice Aa xn.attrs.length ca,.slice Ac xn.acl.length cc,.slice Ad xn.data.length cd⟩]):=Ow.ext1 (l:=nvs) (l':=[⟨xn,.slice Aa xn.attrs.length ca,.slice Ac xn.acl.length cc,.slice Ad xn.data.length cd⟩]) (by simpa using hO11)
       have nb : ∀ {b ty : Nat} {cs : Array Value},Blk w10 b ty cs → ty ≠ 47 → ¬ (Value.slice A2 nvs.length c2).ownBlock = some b:=fun h hne hb=>by
        obtain ⟨cs,hc⟩:=hO10.n.typ hb
        exact h.ne_ hc hne rfl
       have hE011 : Ext w w11:=hE010.trans hF11 fun j hj hb=>by have:=(hO10.n.blk hb).1;omega
       have hT11:=(hT9.ext hE10).fr hF11 (nb (hT9.ext hE10) (by decide))
       have hR11:=(hR9.ext hE10).fr hF11 (nb (hR9.ext hE10) (by decide))
       have hEn11:=(hEn9.ext hE10).fr hF11 (nb (hEn9.ext hE10) (by decide))
       have hOe11:=hO10.e.fr hF11 fun b hb=>by obtain ⟨cs,hc⟩:=hO10.e.typ hb;exact nb hc (by decide)
       have aw : ∀ b ty cs,Blk w10 b ty cs → (ty = 78 ∨ ty = 80 ∨ ty = 65) → ¬ (Value.slice A2 nvs.length c2).ownBlock = some b:=fun b ty cs hc ht=>nb hc (by rcases ht with rfl | rfl | rfl <;> decide)
       have hOi11 : ∀ y ∈ nvs,NdO w11 w.heap.size y:=fun y hy=>(hO10.i y hy).awayN hF11 aw
       have hx11:=(hx10.mono (B':=w.heap.size) (by omega)).awayN hF11 aw
       have z11:=hF11.size
       refine goL ?_
       refine xstb hT11 rfl rfl (by kernel_rfl) (by obtain ⟨Av,cv,rfl,_,_⟩:=hO11'.form;rfl) rfl (fun w12 hB12 hF12=>?_)
       have hB12' : Blk w12 (g + 1) 25 #[.slice A1 t.es.length c1,v11]:=hB12
       have nt : ∀ {b ty : Nat} {cs : Array Value},Blk w11 b ty cs → ty ≠ 25 → ¬ b = g + 1:=fun h hne hb=>h.ne_ hT11 hne hb
       have aw2 : ∀ b ty cs,Blk w11 b ty cs → (ty = 78 ∨ ty = 80 ∨ ty = 65) → ¬ b = g + 1:=fun b ty cs hc ht=>nt hc (by rcases ht with rfl | rfl | rfl <;> decide)
       have hd:=hd _ hf
       have hml : (t.ns.length : Int) = (nvs.length : Int):=by rw [hnvl]
       dsimp only at hd
       rw [hml,← hxn] at hd
       have hnN : ∀ (P : Nd → Prop),(∀ n ∈ t.ns,P n) → P xn → ∀ n ∈ t.ns ++ [xn],P n:=fun P h1 h2 n hn=>by
        rcases List.mem_append.1 hn with hn | hn
        ·exact h1 n hn
        ·rw [List.mem_singleton.1 hn];exact h2
       refine goL ?_
       refine tfin ⟨((nvs.length : Int),.slice A1 t.es.length c1,v11,nvs ++ [⟨xn,.slice Aa xn.attrs.length ca,.slice Ac xn.acl.length cc,.slice Ad xn.data.length cd⟩],⟨t.es,t.ns ++ [xn]⟩),sub ⟨rfl,rfl,rfl,rfl,rfl,rfl⟩,⟨hB12',hR11.fr hF12 (show ¬ g = g + 1 by omega),hEn11.fr hF12 (nt hEn11 (by decide)),⟨hOe11.fr hF12 (fun b hb=>by obtain ⟨cs,hc⟩:=hOe11.typ hb;exact nt hc (by decide)),hO11'.fr hF12 (fun b hb=>by obtain ⟨cs,hc⟩:=hO11'.typ hb;exact nt hc (by decide)),fun y hy=>?_,?_⟩,hd,hel,?_,hnN _ hns ?_,hnN _ hnd ?_,hN hE011 hF12 (by omega)⟩⟩
       ·rcases List.mem_append.1 hy with hy | hy
        ·exact (hOi11 y hy).awayN hF12 aw2
        ·rw [List.mem_singleton.1 hy];exact hx11.awayN hF12 aw2
       ·show (nvs ++ [_]).map (fun x : NdV=>x.n) = t.ns ++ [xn]
        rw [List.map_append,hm];rfl
       ·show (t.ns ++ [xn]).length ≤ i + 1
        rw [List.length_append,List.length_singleton];omega
       ·rw [hxn]
        show bytesP d ≤ 1000000
        omega
       ·rw [hxn]
        exact ⟨hrL.a,hrL.c,by show d.length ≤ _;omega⟩
    ·rintro ⟨en,ve',vn',nvs',t'⟩ w7 ⟨hT7,hR7,hEn7,hO7,hst,hel',hnl',hns',hnd',hE07⟩
     dsimp only at hT7 hEn7 hO7 hst hel' hnl' hns' hnd' ⊢
     obtain ⟨A1',c1',rfl,_,_⟩:=hO7.e.form
     have hvn1 : vn'.oneCell' = true:=by obtain ⟨Av,cv,rfl,_,_⟩:=hO7.n.form;rfl
     have ke : w7.cell? ⟨g + 1,0,none⟩ = some (.slice A1' t'.es.length c1'):=hT7.cell 0
     have z7:=hE07.size
     refine goL ?_
     refine xlda (t:=53) hEn7 rfl rfl ?_
     refine xbz1 sl_ents rfl rfl (by decide) (by decide) (fun w8 hB8 hE8 hs8=>?_)
     have hE08:=hE07.t hE8
     have hO8:=hO7.ext hE8
     have hT8:=hT7.ext hE8
     have hR8:=hR7.ext hE8
     refine xapz (B:=w.heap.size) (news:=enC ⟨r.path,en⟩) sl_ents rfl (by decide) rfl hO8.e rfl (blk_row hB8 (by decide) rfl) rfl (List.all_eq_true.1 (rfl : (enC ⟨r.path,en⟩).all (·.oneCell') = true)) (by unfold maxLen;omega) (by omega) hE08.size (fun v9 w9 hO9 hF9 _=>?_)
     have hO9' : Ow enC 2 w9 w.heap.size 53 v9 (t'.es ++ [⟨r.path,en⟩]):=Ow.ext1 (l:=t'.es) (l':=[⟨r.path,en⟩]) (by simpa using hO9)
     have nb : ∀ {b ty : Nat} {cs : Array Value},Blk w8 b ty cs → ty ≠ 53 → ¬ (Value.slice A1' t'.es.length c1').ownBlock = some b:=fun h hne hb=>by
      obtain ⟨cs,hc⟩:=hO8.e.typ hb
      exact h.ne_ hc hne rfl
     have hE09 : Ext w w9:=hE08.trans hF9 fun j hj hb=>by have:=(hO8.e.blk hb).1;omega
     have hT9:=hT8.fr hF9 (nb hT8 (by decide))
     have hR9:=hR8.fr hF9 (nb hR8 (by decide))
     have aw : ∀ b ty cs,Blk w8 b ty cs → (ty = 78 ∨ ty = 80 ∨ ty = 65) → ¬ (Value.slice A1' t'.es.length c1').ownBlock = some b:=fun b ty cs hc ht=>nb hc (by rcases ht with rfl | rfl | rfl <;> decide)
     have hOn9:=hO8.n.fr hF9 fun b hb=>by obtain ⟨cs,hc⟩:=hO8.n.typ hb;exact nb hc (by decide)
     have hOi9 : ∀ y ∈ nvs',NdO w9 w.heap.size y:=fun y hy=>(hO8.i y hy).awayN hF9 aw
     have hv91 : v9.oneCell' = true:=by obtain ⟨Av,cv,rfl,_,_⟩:=hO9'.form;rfl
     refine goL ?_
     refine xstb hT9 rfl rfl (by kernel_rfl) hv91 rfl (fun w10 hB10 hF10=>?_)
     have hB10' : Blk w10 (g + 1) 25 #[v9,vn']:=hB10
     have nt : ∀ {b ty : Nat} {cs : Array Value},Blk w9 b ty cs → ty ≠ 25 → ¬ b = g + 1:=fun h hne hb=>h.ne_ hT9 hne hb
     have aw2 : ∀ b ty cs,Blk w9 b ty cs → (ty = 78 ∨ ty = 80 ∨ ty = 65) → ¬ b = g + 1:=fun b ty cs hc ht=>nt hc (by rcases ht with rfl | rfl | rfl <;> decide)
     refine goL ?_
     refine tgoto rfl ⟨_,(by show rl.length - (i + 1) < rl.length - i;omega),rfl,(i + 1,v9,vn',nvs',⟨t'.es ++ [⟨r.path,en⟩],t'.ns⟩),sub ⟨rfl,rfl,rfl,rfl,ieq (by dsimp only;omega)⟩,⟨by show i + 1 ≤ _;omega,hB10',hR9.fr hF10 (show ¬ g = g + 1 by omega),⟨hO9'.fr hF10 (fun b hb=>by obtain ⟨cs,hc⟩:=hO9'.typ hb;exact nt hc (by decide)),hOn9.fr hF10 (fun b hb=>by obtain ⟨cs,hc⟩:=hOn9.typ hb;exact nt hc (by decide)),fun y hy=>(hOi9 y hy).awayN hF10 aw2,hO7.m⟩,guess_step hri hgo hst,?_,hnl',hns',hnd',hN hE09 hF10 (by omega)⟩,rfl⟩
     show (t'.es ++ [_]).length = i + 1
     rw [List.length_append,hel'];rfl
   ·have hd : gstp whole (some t) r.p = none:=by
     unfold gstp
     dsimp only
     rw [if_neg]
     rw [Bool.and_eq_true,decide_eq_true_eq,hel]
     exact hok
    by_cases hok1 : recOK r.p = true
    ·have hli : ¬ r.lead ≤ (i : Int):=fun h=>hok ⟨hok1,h⟩
     rw [hok1]
     refine goL ?_
     refine xbd (cells:=#[.slice none 0 0,.slice none 0 0]) rfl (by kernel_rfl) ?_
     refine xsta hR4 rfl rfl (by kernel_rfl) rfl (by kernel_rfl) (fun w7 hB7 hF7=>?_)
     refine goL ?_
     refine tretc2 rfl rfl rfl hB7 (by kernel_rfl) ⟨hN hE04 hF7 (by omega),?_⟩
     rw [guess_dead hri hgo hd]
    ·rw [Bool.not_eq_true] at hok1
     rw [hok1]
     refine goL ?_
     refine xbd (cells:=#[.slice none 0 0,.slice none 0 0]) rfl (by kernel_rfl) ?_
     refine xsta hR4 rfl rfl (by kernel_rfl) rfl (by kernel_rfl) (fun w7 hB7 hF7=>?_)
     refine goL ?_
     refine tretc2 rfl rfl rfl hB7 (by kernel_rfl) ⟨hN hE04 hF7 (by omega),?_⟩
     rw [guess_dead hri hgo hd]
  ·have hie : i = rl.length:=by omega
   have hgo : guessM (rl.map RcV.p) whole = some t:=by
    rw [hie,List.take_length] at hgo;exact hgo
   refine goL ?_
   refine xlda (t:=25) hT rfl rfl ?_
   refine xsta hR rfl rfl (by kernel_rfl) rfl (one_cells (l:=[.slice A1 t.es.length c1,.slice A2 nvs.length c2]) rfl) (fun w7 hB7 hF7=>?_)
   refine goL ?_
   refine tretc2 rfl rfl rfl hB7 (by kernel_rfl) ⟨hN hE hF7 (by omega),?_⟩
   rw [hgo]
   exact ⟨_,_,nvs,rfl,hO.away hF7 (fun b ty cs hc ht e=>hc.ne_ hR (by rcases ht with rfl | rfl | rfl | rfl | rfl <;> decide) e),hns,hnd,by omega⟩
 ·intro H
  refine goL ?_
  refine xbd (cells:=#[.slice none 0 0,.slice none 0 0]) rfl (by kernel_rfl) ?_
  refine xalloc (z:=.agg #[.slice none 0 0,.slice none 0 0]) (by kernel_rfl) (fun w2 hB2 hE2 hs2=>?_)
  rw [hs1] at hB2 hs2 ⊢
  refine xsta hB2 rfl rfl (by kernel_rfl) rfl (by kernel_rfl) (fun w3 hB3 hF3=>?_)
  have hE3 : Ext w1 w3:=hN hE2 hF3 (by omega)
  refine goL ?_
  refine tlabel ?_
  exact tweak (H (0,.slice none 0 0,.slice none 0 0,[],⟨[],[]⟩) w3 ⟨Nat.zero_le _,hB3,hB1.ext hE3,TrO.none _ _,rfl,rfl,Nat.zero_le _,nofun,nofun,hE1.t hE3⟩) (sub ⟨rfl,rfl,rfl,rfl,rfl⟩)
end
end Go.Proofs.YtbpmlbjapapoaaaGreatDoor.Eng
