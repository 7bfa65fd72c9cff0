/-
  Parts of the proof: Ap.
-/
import Derived.Test.YtbpmlbjapapoaaaGreatDoorRAo
set_option maxRecDepth 100000
set_option maxHeartbeats 64000000
namespace Go.Proofs.YtbpmlbjapapoaaaGreatDoor.Eng
open Go.RowKit
section
open Go.RowKit Go.Lib
attribute [local irreducible] xs T
structure RrOK (w : World) (r : RcV) : Prop where
 i : NdIn w r.nd
 l : NdL r.nd.n
 d : r.nd.n.data.length ≤ 200
 g : r.nd.n.target.length ≤ 1000000
 p : ∀ p ∈ r.nd.n.data,p.data.length ≤ 1000000
 q : r.path.length ≤ 1000000
theorem gstp_es {whole : Str} {t t' : Tre} {r : RcP} (h : gstp whole (some t) r = some t') : t'.es.length = t.es.length + 1:=by
 unfold gstp at h
 dsimp only at h
 split at h
 ·split at h
  ·obtain rfl:=Option.some.inj h
   simp
  ·cases hf : filP whole r.pos.toNat r.nd.data with
   | none=>rw [hf] at h;cases h
   | some d=>
    rw [hf] at h
    obtain rfl:=Option.some.inj h
    simp
 ·cases h
theorem guess_len {whole : Str} : ∀ {l : List RcP} {t t' : Tre},l.foldl (gstp whole) (some t) = some t' → t'.es.length = t.es.length + l.length
 | [],t,t',h=>by obtain rfl:=Option.some.inj h;rfl
 | r :: l,t,t',h=>by
  rw [List.foldl_cons] at h
  cases hg : gstp whole (some t) r with
  | none=>rw [hg,gstp_none] at h;cases h
  | some t1=>
   rw [hg] at h
   have:=guess_len h
   rw [this,gstp_es hg,List.length_cons];omega
theorem treeM_eq (recs : List RcP) (whole : Str) : treeM recs whole = match guessM recs whole with
 | none=>none
 | some t=>if mayT t = true ∧ (recsM t).recs = recs ∧ (recsM t).whole = whole then some t else none:=by
 unfold treeM
 split
 ·rename_i hb
  cases hg : guessM recs whole with
  | none=>rfl
  | some t=>
   have hl:=guess_len hg
   dsimp only
   rw [if_neg]
   rintro ⟨hm,_⟩
   unfold mayT at hm
   simp only [Bool.and_eq_true,decide_eq_true_eq] at hm
   have h1:=hm.1.1.1.1
   have h2:=hm.1.1.1.2
   have hl : t.es.length = 0 + recs.length:=hl
   omega
 ·rfl
def ldL (t : Tre) (n : Nat) : List Int:=t.es.map (·.node) ++ List.replicate (n - t.es.length) 0
structure TofI (w : World) (rl : List RcV) (whole : Str) (g gl : Nat) (y : Nat × Value × Value × List NdV × Tre) (w' : World) : Prop where
 le : y.1 ≤ rl.length
 T : Blk w' (g + 1) 25 #[y.2.1,y.2.2.1]
 R : Blk w' g 25 #[.slice none 0 0,.slice none 0 0]
 L : Blk w' gl 3 ((ldL y.2.2.2.2 rl.length).map (Value.int .i64)).toArray
 o : Ow enC 2 w' w.heap.size 53 y.2.1 y.2.2.2.2.es
 n : Ow ndC 12 w' w.heap.size 47 y.2.2.1 y.2.2.2.1
 i : ∀ x ∈ y.2.2.2.1,NdB w w' x
 m : y.2.2.2.1.map (·.n) = y.2.2.2.2.ns
 go : ((rl.take y.1).map RcV.p).foldl (gstp whole) (some ⟨[],[]⟩) = some y.2.2.2.2
 el : y.2.2.2.2.es.length = y.1
 nl : y.2.2.2.2.ns.length ≤ y.1
 ok : TsOK y.2.2.2.2
 nd : ∀ n ∈ y.2.2.2.2.ns,NdL n
 ext : Ext w w'
theorem ldL_len {t : Tre} {n : Nat} (h : t.es.length ≤ n) : (ldL t n).length = n:=by
 unfold ldL
 rw [List.length_append,List.length_map,List.length_replicate];omega
theorem ldL_lt {t : Tre} {n k : Nat} {e : En} (h : t.es[k]? = some e) : (ldL t n)[k]? = some e.node:=by
 unfold ldL
 have hk:=(List.getElem?_eq_some_iff.1 h).1
 rw [List.getElem?_append_left (by rw [List.length_map];exact hk),List.getElem?_map,h];rfl
theorem ldL_set {t : Tre} {n : Nat} {e : En} {ns : List Nd} (h : t.es.length < n) : (ldL t n).set t.es.length e.node = ldL ⟨t.es ++ [e],ns⟩ n:=by
 unfold ldL
 rw [List.set_append_right _ _ (by rw [List.length_map];omega),List.length_map,Nat.sub_self]
 obtain ⟨k,hk⟩ : ∃ k,n - t.es.length = k + 1:=⟨n - t.es.length - 1,by omega⟩
 rw [hk,List.replicate_succ,List.set_cons_zero]
 show _ = (t.es ++ [e]).map (·.node) ++ List.replicate (n - (t.es ++ [e]).length) 0
 rw [List.length_append,List.length_singleton,show n - (t.es.length + 1) = k from by omega,List.map_append,List.append_assoc]
 rfl
structure TofM (w : World) (rp : RcP) (whole : Str) (t : Tre) (n i g gl g9 : Nat) (y : Int × Value × Value × List NdV × Tre) (w' : World) : Prop where
 T : Blk w' (g + 1) 25 #[y.2.1,y.2.2.1]
 R : Blk w' g 25 #[.slice none 0 0,.slice none 0 0]
 L : Blk w' gl 3 (((ldL t n).set i y.1).map (Value.int .i64)).toArray
 C : w'.cell? ⟨g9,0,none⟩ = some (.string (su rp.path))
 o : Ow enC 2 w' w.heap.size 53 y.2.1 y.2.2.2.2.es
 n : Ow ndC 12 w' w.heap.size 47 y.2.2.1 y.2.2.2.1
 ii : ∀ x ∈ y.2.2.2.1,NdB w w' x
 m : y.2.2.2.1.map (·.n) = y.2.2.2.2.ns
 st : gstp whole (some t) rp = some ⟨t.es ++ [⟨rp.path,y.1⟩],y.2.2.2.2.ns⟩
 es : y.2.2.2.2.es = t.es
 nl : y.2.2.2.2.ns.length ≤ i + 1
 ok : NsOK y.2.2.2.2.ns ∧ ∀ n ∈ y.2.2.2.2.ns,n.target.length ≤ 1000000
 nd : ∀ n ∈ y.2.2.2.2.ns,NdL n
 ext : Ext w w'
structure TofF (w : World) (whole : Str) (pos : Nat) (data : List Pce) (g10 : Nat) (m : Nd) (va vc vd : Value) (w1 : World) (y : Nat × Nat × List Pce) (w' : World) : Prop where
 le : y.1 ≤ data.length
 at_ : y.2.1 ≤ 400000 + 4000 * y.1
 ln : y.2.2.length = y.1
 go : filP whole pos data = (filP whole y.2.1 (data.drop y.1)).map (y.2.2 ++ ·)
 d : Ow pcC 2 w' w.heap.size 65 vd (y.2.2 ++ m.data.drop y.1)
 B : Blk w' g10 47 (ndC ⟨m,va,vc,vd⟩).toArray
 fr : Fr (fun b=>vd.ownBlock = some b) w1 w'
theorem NdB.frP {S : Nat → Prop} {w0 w w' : World} {x : NdV} (h : NdB w0 w x) (hF : Fr S w w') (hA : ∀ b,x.vd.ownBlock = some b → ¬ S b) : NdB w0 w' x:=
 ⟨h.a,h.c,h.d.fr hF hA,fun b hb=>by obtain ⟨cs,hc⟩:=h.t b hb;exact ⟨cs,hc.fr hF (hA b hb)⟩⟩
theorem treeof_does (w : World) (vr : Value) (rl : List RcV) (whole : Str) (hr : Rw rcC w vr rl) (hk : ∀ x ∈ rl,RrOK w x) (hwl : whole.length ≤ 1000000000) (hrl : rl.length ≤ 1000) : Does Tryz.prog 14 #[vr,.string (su whole)] w (TreR w rl whole):=by
 refine does2 Tryz.func14 rfl (by kernel_rfl) ?_
 have hN : ∀ {a b c : World} {g : Nat},Ext a b → Fr (· = g) b c → a.heap.size ≤ g → Ext a c:=fun h1 h2 hg=>h1.trans h2 fun j hj e=>absurd hj (by omega)
 have hr0:=hr
 obtain ⟨A,c,rfl,hc1,hc2,hA⟩:=hr.op rcC_len
 refine goL ?_
 refine xalloc (z:=.agg #[.slice none 0 0,.slice none 0 0]) (by kernel_rfl) (fun w1 hB1 hE1 hs1=>?_)
 obtain ⟨g,hg⟩ : ∃ g,g = w.heap.size:=⟨_,rfl⟩
 rw [← hg] at hB1 hs1 ⊢
 refine goL ?_
 refine xalloc (z:=.agg #[.slice none 0 0,.slice none 0 0]) (by kernel_rfl) (fun w2 hB2 hE2 hs2=>?_)
 rw [hs1] at hB2 hs2 ⊢
 refine goL ?_
 refine xmk sl_ints rfl rfl rfl (by omega) (by rw [Int.toNat_natCast];omega) (by omega) (fun w3 hB3 hE3 hs3=>?_)
 rw [Int.toNat_natCast] at hB3 ⊢
 obtain ⟨gl,hgl⟩ : ∃ gl,gl = w2.heap.size:=⟨_,rfl⟩
 rw [← hgl] at hB3 hs3 ⊢
 have hL3 : Blk w3 gl 3 ((ldL ⟨[],[]⟩ rl.length).map (Value.int .i64)).toArray:=by
  have e : ((ldL ⟨[],[]⟩ rl.length).map (Value.int .i64)).toArray = Array.replicate rl.length (Value.int .i64 0):=by
   apply Array.ext'
   rw [Array.toList_replicate]
   show (List.replicate (rl.length - 0) (0 : Int)).map (Value.int .i64) = _
   rw [List.map_replicate];rfl
  rw [e];exact hB3
 have hE03:=(hE1.t hE2).t hE3
 have hgle : gl = g + 2:=by omega
 refine goL ?_
 refine tloop (α:=Nat × Value × Value × List NdV × Tre) (fun y=>[(0,.slice A rl.length c),(1,.string (su whole)),(4,.pointer (some ⟨g,0,none⟩)),(6,.pointer (some ⟨g + 1,0,none⟩)),(7,.slice (some ⟨gl,0,none⟩) rl.length rl.length),(8,.int .i64 (y.1 : Int))]) (TofI w rl whole g gl) (fun y=>rl.length - y.1) (0,.slice none 0 0,.slice none 0 0,[],⟨[],[]⟩) (sub ⟨rfl,rfl,rfl,rfl,rfl,rfl⟩) ⟨Nat.zero_le _,Blk.ext hB2 hE3,hB1.ext (hE2.t hE3),hL3,Ow.nil _ _ _,Ow.nil _ _ _,nofun,rfl,rfl,rfl,Nat.zero_le _,⟨nofun,nofun,nofun⟩,nofun,hE03⟩ ?_
 rintro ⟨i,ve,vn,nvs,t⟩ w' ⟨hi,hT,hR,hL,hOe,hOn,hOi,hm,hgo,hel,hnl,hok,hnd,hE⟩
 dsimp only at hi hT hR hL hOe hOn hOi hm hgo hel hnl hok hnd ⊢
 have z0:=hE.size
 have hnvl : nvs.length = t.ns.length:=by rw [← hm,List.length_map]
 obtain ⟨A1,c1,rfl,_,_⟩:=hOe.form
 obtain ⟨A2,c2,rfl,_,_⟩:=hOn.form
 have hgo0:=hgo
 by_cases hlt : i < rl.length
 ·obtain ⟨b,oo,r,rfl,_,hri,hdr,hce⟩:=hA.at_ hlt
  obtain ⟨hrI,hrL,hrD,hrG,hrP,hrQ⟩:=hk r (List.mem_of_getElem? hri)
  refine gz26 ?_
  refine xldz (cs:=rcC r) rfl rfl (fun j u hu=>hE.cell (hce j u hu)) ?_
  refine xalloc (z:=.agg (rcC ⟨[],0,ndZV,0⟩).toArray) (by kernel_rfl) (fun w4 hB4 hE4 hs4=>?_)
  refine xsta (cs:=(rcC r).toArray) hB4 rfl rfl (by kernel_rfl) rfl (one_cells (rc_one hrI)) (fun w5 hB5 hF5=>?_)
  have hE5 : Ext w' w5:=hN hE4 hF5 (Nat.le_refl _)
  obtain ⟨g9,hg9⟩ : ∃ g9,g9 = w'.heap.size:=⟨_,rfl⟩
  rw [← hg9] at hB5 ⊢
  have hE05:=hE.t hE5
  refine goL ?_
  refine xlda (t:=49) hB5 rfl (by rw [List.size_toArray,rcC_len];kernel_rfl) ?_
  refine xcallE rfl rfl (rrecmay_does w5 r (hrI.ext hE05) hrD hrG hrP hrQ) (fun v w6 h6=>?_)
  obtain ⟨rfl,hE6⟩:=h6
  have hB6:=hB5.ext hE6
  have hE'6:=hE5.t hE6
  have hE06:=hE05.t hE6
  have hT6:=hT.ext hE'6
  have hR6:=hR.ext hE'6
  have hL6:=hL.ext hE'6
  have hOe6:=hOe.ext hE'6
  have hOn6:=hOn.ext hE'6
  have hOi6 : ∀ x ∈ nvs,NdB w w6 x:=fun x hx=>(hOi x hx).ext hE'6
  have z6:=hE'6.size
  have g9l:=hB6.lt
  have k1 : w6.cell? ⟨g9,1,none⟩ = some (.int .i64 r.lead):=hB6.cell 1
  by_cases hokr : recOK r.p = true ∧ r.lead ≤ (i : Int)
  ·obtain ⟨hokr,hli⟩:=hokr
   rw [hokr]
   obtain ⟨hmp,hl0,hl1,hp0,hp1⟩:=recOK_pos hokr
   obtain ⟨hlens,h16,h200⟩:=recOK_data hokr
   have hmp : mayP r.path = true:=hmp
   have hl0 : 0 ≤ r.lead:=hl0
   have hp0 : 0 ≤ r.pos:=hp0
   have hp1 : r.pos ≤ 400000:=hp1
   have hlens : lensOK r.nd.n.data = true:=hlens
   have h16 : r.nd.n.data.length ≤ 16:=h16
   have hpl:=mayP_len hmp
   obtain ⟨k,hkl⟩:=Int.eq_ofNat_of_zero_le hl0
   have hki : k ≤ i:=by omega
   have hal:=ldL_len (t:=t) (n:=rl.length) (by omega)
   obtain ⟨kv,hkv⟩ : ∃ kv,(ldL t rl.length)[k]? = some kv:=⟨_,List.getElem?_eq_getElem (by omega)⟩
   have l1 : w6.cell? ⟨gl,0 + k,none⟩ = some (.int .i64 kv):=by
    rw [hL6.cell,Nat.zero_add,List.getElem?_toArray,List.getElem?_map,hkv];rfl
   rw [hkl] at k1
   refine goL ?_
   refine xstb hL6 rfl rfl (by kernel_rfl) rfl (by simp only [decide_eq_true_eq,List.size_toArray,List.length_map];omega) (fun w7 hL7 hF7=>?_)
   have hL7' : Blk w7 gl 3 (((ldL t rl.length).set i kv).map (Value.int .i64)).toArray:=by
    rw [Nat.zero_add] at hL7
    simpa [List.map_set] using hL7
   have nL : ∀ {b ty : Nat} {cs : Array Value},Blk w6 b ty cs → ty ≠ 3 → ¬ b = gl:=fun h hne e=>h.ne_ hL6 hne e
   have hB7:=hB6.fr hF7 (nL hB6 (by decide))
   have hT7:=hT6.fr hF7 (nL hT6 (by decide))
   have hR7:=hR6.fr hF7 (nL hR6 (by decide))
   have hOe7:=hOe6.fr hF7 fun b hb=>by obtain ⟨cs,hc⟩:=hOe6.typ hb;exact nL hc (by decide)
   have hOn7:=hOn6.fr hF7 fun b hb=>by obtain ⟨cs,hc⟩:=hOn6.typ hb;exact nL hc (by decide)
   have hOi7 : ∀ x ∈ nvs,NdB w w7 x:=fun x hx=>(hOi6 x hx).fr hF7 fun b cs hc=>nL hc (by decide)
   have hE07 : Ext w w7:=hN hE06 hF7 (by omega)
   have z7:=hF7.size
   have k1 : w7.cell? ⟨g9,1,none⟩ = some (.int .i64 r.lead):=hB7.cell 1
   refine goL ?_
   refine xdecK (p:=r.lead = (i : Int)) (decide (r.lead = (i : Int))) rfl rfl rfl decide_eq_true_iff ?_
   refine gz0 ?_
   have hel' : (t.es.length : Int) = (i : Int):=by rw [hel]
   refine tcut (α:=Int × Value × Value × List NdV × Tre) (fun y=>[(0,.slice (some ⟨b,oo,none⟩) rl.length c),(1,.string (su whole)),(4,.pointer (some ⟨g,0,none⟩)),(6,.pointer (some ⟨g + 1,0,none⟩)),(7,.slice (some ⟨gl,0,none⟩) rl.length rl.length),(8,.int .i64 (i : Int)),(9,.pointer (some ⟨g9,0,none⟩))]) (TofM w r.p whole t rl.length i g gl g9) ?_ ?_
   ·refine tcs rfl (fun hct=>?_) (fun hcf=>?_)
    ·have hll : r.lead = (i : Int):=of_decide_eq_true hct
     have hd : ∀ o,filP whole r.pos.toNat r.nd.n.data = o → gstp whole (some t) r.p = match o with
       | none=>none
       | some d=>some ⟨t.es ++ [⟨r.path,(t.ns.length : Int)⟩],t.ns ++ [{ r.nd.n with data:=d }]⟩:=fun o ho=>by
      unfold gstp
      dsimp only
      have e1 : (RcV.p r).lead = r.lead:=rfl
      have e2 : filP whole (RcV.p r).pos.toNat (RcV.p r).nd.data = o:=ho
      rw [hokr,e1,hel',Bool.true_and,if_pos (decide_eq_true hli),if_neg (by omega),e2]
      rfl
     have hfr : fullR r.nd.n = some { r.nd.n with data:=r.nd.n.data.map (fulP 0) }:=if_pos hlens
     have hmok : nodeOK { r.nd.n with data:=r.nd.n.data.map (fulP 0) } = true ∨ r.nd.n.data = []:=by
      have:=recOKR_eq r.p
      rw [hokr] at this
      unfold recOKR at this
      rw [Bool.and_eq_true] at this
      have h2:=this.2
      by_cases hz : (RcV.p r).nd = ndZ
      ·have hz : r.nd.n = ndZ:=hz
       exact .inr (by rw [hz];rfl)
      ·rw [if_neg hz] at h2
       have hfr : fullR (RcV.p r).nd = some { r.nd.n with data:=r.nd.n.data.map (fulP 0) }:=hfr
       rw [hfr] at h2
       dsimp only at h2
       rw [Bool.and_eq_true] at h2
       exact .inl h2.1
     refine goL ?_
     refine xldz (cs:=ndC r.nd) rfl rfl (rc_nd hB7) ?_
     refine xcallE rfl rfl (rfull_does w7 r.nd (hrI.ext hE07) hrD hrG hrP) (fun v w8 h8=>?_)
     obtain ⟨hE8,h8⟩:=h8
     rw [hfr] at h8
     obtain ⟨vd,rfl,hOd⟩:=h8
     obtain ⟨M,hM⟩ : ∃ M : Nd,M = { r.nd.n with data:=r.nd.n.data.map (fulP 0) }:=⟨_,rfl⟩
     rw [← hM] at hOd hmok ⊢
     obtain ⟨Aa,ca,hva,_,_,_⟩:=hrI.a.op attC_len
     obtain ⟨Ac,cc,hvc,_,_,_⟩:=hrI.c.op acC_len
     obtain ⟨Ad,cd,rfl,_,_⟩:=hOd.form
     have hMl : M.data.length = r.nd.n.data.length:=by rw [hM];exact List.length_map _
     have hone : (ndC ⟨M,r.nd.va,r.nd.vc,.slice Ad M.data.length cd⟩).all (·.oneCell') = true:=by rw [hva,hvc];rfl
     have z8:=hE8.size
     refine goL ?_
     refine xalloc (z:=.agg (ndC ndZV).toArray) (by kernel_rfl) (fun w9 hB9 hE9 hs9=>?_)
     refine xsta hB9 rfl rfl (by kernel_rfl) rfl (one_cells hone) (fun w10 hN10 hF10=>?_)
     have hE10 : Ext w8 w10:=hN hE9 hF10 (Nat.le_refl _)
     obtain ⟨g10,hg10⟩ : ∃ g10,g10 = w8.heap.size:=⟨_,rfl⟩
     rw [← hg10] at hN10 ⊢
     have hE710:=hE8.t hE10
     have hE010:=hE07.t hE710
     have z10:=hE710.size
     have hOd10:=hOd.ext hE10
     have hB10:=hB7.ext hE710
     have k14 : w10.cell? ⟨g9,14,none⟩ = some (.int .i64 r.pos):=hB10.cell 14
     refine goL ?_
     refine tloop (α:=Nat × Nat × List Pce) (fun y=>[(0,.slice (some ⟨b,oo,none⟩) rl.length c),(1,.string (su whole)),(4,.pointer (some ⟨g,0,none⟩)),(6,.pointer (some ⟨g + 1,0,none⟩)),(7,.slice (some ⟨gl,0,none⟩) rl.length rl.length),(8,.int .i64 (i : Int)),(9,.pointer (some ⟨g9,0,none⟩)),(10,.pointer (some ⟨g10,0,none⟩)),(11,.bool (nodeOK M)),(12,.int .i64 (y.2.1 : Int)),(13,.int .i64 (y.1 : Int))]) (TofF w7 whole r.pos.toNat r.nd.n.data g10 M r.nd.va r.nd.vc (.slice Ad M.data.length cd) w10) (fun y=>r.nd.n.data.length - y.1) (0,r.pos.toNat,[]) (sub ⟨rfl,rfl,rfl,rfl,rfl,rfl,rfl,rfl,rfl,ieq (by dsimp only;omega),rfl⟩) ⟨Nat.zero_le _,(by show r.pos.toNat ≤ _;omega),rfl,by simp,by simpa using hOd10,hN10,Fr.refl _ _⟩ ?_
     rintro ⟨q,from_,dn⟩ w11 ⟨hq,hat,hdn,hfo,hOd11,hN11,hF11⟩
     dsimp only at hq hat hdn hfo hOd11 hN11 ⊢
     have hdl : (dn ++ M.data.drop q).length = M.data.length:=by rw [List.length_append,List.length_drop];omega
     have k8 : w11.cell? ⟨g10,8,none⟩ = some (.slice Ad M.data.length cd):=hN11.cell 8
     have ndb : ∀ b,(Value.slice Ad M.data.length cd).ownBlock = some b → w7.heap.size ≤ b ∧ b < w8.heap.size:=fun b hb=>hOd.blk hb
     have hE1011 : Ext w w11:=hE010.trans hF11 fun j hj hb=>by have:=(ndb j hb).1;omega
     have hR11:=(hR7.ext hE710).fr hF11 (fun e=>by have:=(ndb _ e).1;have:=hR7.lt;omega)
     by_cases hql : q < r.nd.n.data.length
     ·have hmt : nodeOK M = true:=hmok.resolve_right (fun h=>by rw [h] at hql;exact absurd hql (Nat.not_lt_zero _))
      obtain ⟨p,hp⟩ : ∃ p,r.nd.n.data[q]? = some p:=⟨_,List.getElem?_eq_getElem hql⟩
      have hMq : M.data[q]? = some (fulP 0 p):=by rw [hM];show (r.nd.n.data.map (fulP 0))[q]? = _;rw [List.getElem?_map,hp];rfl
      have hpd : (dn ++ M.data.drop q)[q]? = some (fulP 0 p):=by
       rw [List.getElem?_append_right (by omega),hdn,Nat.sub_self,List.getElem?_drop,Nat.add_zero];exact hMq
      have hdr : r.nd.n.data.drop q = p :: r.nd.n.data.drop (q + 1):=by
       rw [List.drop_eq_getElem_cons hql];congr 1;exact (List.getElem?_eq_some_iff.1 hp).2
      rw [hdr,filP] at hfo
      have hll:=lenS_le p.data
      have hfl : (fulP 0 p).data.length = lenS p.data:=List.length_replicate
      obtain ⟨g3,c3,e3,hg3,hg3l,_,_⟩:=hOd11.go (by omega)
      injection e3 with e3 e4 e5
      subst e3;subst e5
      obtain ⟨Ax,cx,ex,_,_,hAx⟩:=hOd11.rw.op pcC_len
      rw [hdl] at ex
      injection ex with ex _ _
      subst ex
      obtain ⟨b7,o7,p7,e7,_,hp7,_,hcell7⟩:=hAx.at_ (i:=q) (by omega)
      injection e7 with e7
      injection e7 with e7 e8 _
      subst e7;subst e8
      obtain rfl : p7 = fulP 0 p:=Option.some.inj (hp7.symm.trans hpd)
      have k2 : w11.cell? ⟨g3,0 + q * 2 + 1,none⟩ = some (.string (su (fulP 0 p).data)):=hcell7 1 _ rfl
      have hget : (fulP 0 p).data.length = lenS p.data:=hfl
      rw [hmt]
      by_cases hfit : from_ + lenS p.data ≤ whole.length
      ·rw [if_pos hfit] at hfo
       have k8d : w11.drew.cell? ⟨g10,8,none⟩ = some (.slice (some ⟨g3,0,none⟩) M.data.length cd):=(hN11.ext (Fr.drew noneB w11)).cell 8
       refine gz15 ?_
       refine xusl2 from_ (from_ + lenS p.data) rfl rfl rfl rfl rfl (by omega) (by omega) hfit ?_
       rw [show from_ + lenS p.data - from_ = lenS p.data from by omega]
       refine gz15 ?_
       have hOdd : Ow pcC 2 w11.drew w.heap.size 65 (.slice (some ⟨g3,0,none⟩) M.data.length cd) (dn ++ M.data.drop q):=(hOd11.ext (Fr.drew _ w11)).mono (by omega)
       have hOdd : Ow pcC 2 w11.drew w7.heap.size 65 (.slice (some ⟨g3,0,none⟩) M.data.length cd) (dn ++ M.data.drop q):=hOd11.ext (Fr.drew _ w11)
       refine xstc pcC_len (x':=⟨p.pos,(whole.drop from_).take (lenS p.data)⟩) q 1 hOdd rfl rfl (by omega) (by omega) (by kernel_rfl) rfl hpd rfl (fun w12 hO12 hF12=>?_)
       have hset : (dn ++ M.data.drop q).set q ⟨p.pos,(whole.drop from_).take (lenS p.data)⟩ = (dn ++ [⟨p.pos,(whole.drop from_).take (lenS p.data)⟩]) ++ M.data.drop (q + 1):=set_app hdn hMq
       rw [hset] at hO12
       have hg10 : ¬ g10 = g3:=by
        have:=(ndb g3 rfl).2
        omega
       refine goL ?_
       exact tfin ⟨(q + 1,from_ + lenS p.data,dn ++ [⟨p.pos,(whole.drop from_).take (lenS p.data)⟩]),sub ⟨rfl,rfl,rfl,rfl,rfl,rfl,rfl,rfl,rfl,ieq (by dsimp only;omega),ieq (by dsimp only;omega)⟩,⟨hql,(by show from_ + lenS p.data ≤ 400000 + 4000 * (q + 1);omega),by simp [hdn],by rw [hfo,Option.map_map];congr 1;funext l;simp,hO12,(hN11.ext (Fr.drew noneB w11)).fr hF12 hg10,(hF11.te (Fr.drew noneB w11)).trans hF12 (fun j _ hj=>by have hj : j = g3:=hj;subst hj;rfl)⟩,(by show r.nd.n.data.length - (q + 1) < r.nd.n.data.length - q;omega)⟩
      ·rw [if_neg hfit] at hfo
       have e : treeM (rl.map RcV.p) whole = none:=by
        rw [treeM_eq,guess_dead hri hgo (hd _ hfo)]
       refine gz15 ?_
       refine xbd (cells:=#[.slice none 0 0,.slice none 0 0]) rfl (by kernel_rfl) ?_
       refine xsta hR11 rfl rfl (by kernel_rfl) rfl (by kernel_rfl) (fun w12 hB12 hF12=>?_)
       refine goL ?_
       refine tretc2 rfl rfl rfl hB12 (by kernel_rfl) ⟨hN hE1011 hF12 (by omega),?_⟩
       rw [e]
     ·have hqe : q = r.nd.n.data.length:=by omega
      rw [hqe,List.drop_length,filP] at hfo
      have hfo : filP whole r.pos.toNat r.nd.n.data = some dn:=by rw [hfo];simp
      have hdd : dn ++ M.data.drop q = dn:=by rw [List.drop_eq_nil_of_le (by omega),List.append_nil]
      rw [hdd] at hOd11 hdl
      obtain ⟨fl1,fl2⟩:=filP_len hfo
      have nv : ∀ {b ty : Nat} {cs : Array Value},Blk w10 b ty cs → ty ≠ 65 → ¬ (Value.slice Ad M.data.length cd).ownBlock = some b:=fun h hne hb=>by
       obtain ⟨cs,hc⟩:=hOd10.typ hb
       exact h.ne_ hc hne rfl
      have hT11:=(hT7.ext hE710).fr hF11 (nv (hT7.ext hE710) (by decide))
      have hL11:=(hL7'.ext hE710).fr hF11 (nv (hL7'.ext hE710) (by decide))
      have hB11:=hB10.fr hF11 (nv hB10 (by decide))
      have hOe11:=(hOe7.ext hE710).fr hF11 fun b hb=>by obtain ⟨cs,hc⟩:=(hOe7.ext hE710).typ hb;exact nv hc (by decide)
      have hOn11:=(hOn7.ext hE710).fr hF11 fun b hb=>by obtain ⟨cs,hc⟩:=(hOn7.ext hE710).typ hb;exact nv hc (by decide)
      have hOi11 : ∀ x ∈ nvs,NdB w w11 x:=fun x hx=>((hOi7 x hx).ext hE710).frP hF11 fun b hb hv=>by
       obtain ⟨cs,hc⟩:=(hOi7 x hx).t b hb
       have:=hc.lt
       have:=(ndb b hv).1
       omega
      have kn : w11.cell? ⟨g + 1,1,none⟩ = some (.slice A2 nvs.length c2):=hT11.cell 1
      have hfalse : (decide (q < M.data.length) && nodeOK M) = false:=by rw [decide_eq_false (by omega)];rfl
      refine gz2 ?_
      refine xstb hL11 rfl rfl (by kernel_rfl) rfl (by simp only [decide_eq_true_eq,List.size_toArray,List.length_map,List.length_set];omega) (fun w12 hL12 hF12=>?_)
      have hL12' : Blk w12 gl 3 (((ldL t rl.length).set i (nvs.length : Int)).map (Value.int .i64)).toArray:=by
       rw [Nat.zero_add] at hL12
       have e : ((ldL t rl.length).set i kv).map (Value.int .i64) = ((ldL t rl.length).map (Value.int .i64)).set i (.int .i64 kv):=List.map_set
       rw [e] at hL12
       have e2 : ((ldL t rl.length).set i (nvs.length : Int)).map (Value.int .i64) = ((ldL t rl.length).map (Value.int .i64)).set i (.int .i64 (nvs.length : Int)):=List.map_set
       rw [e2]
       simpa using hL12
      have nL2 : ∀ {b ty : Nat} {cs : Array Value},Blk w11 b ty cs → ty ≠ 3 → ¬ b = gl:=fun h hne e=>h.ne_ hL11 hne e
      have hT12:=hT11.fr hF12 (nL2 hT11 (by decide))
      have hR12:=hR11.fr hF12 (nL2 hR11 (by decide))
      have hB12:=hB11.fr hF12 (nL2 hB11 (by decide))
      have hN12:=hN11.fr hF12 (nL2 hN11 (by decide))
      have hOe12:=hOe11.fr hF12 fun b hb=>by obtain ⟨cs,hc⟩:=hOe11.typ hb;exact nL2 hc (by decide)
      have hOn12:=hOn11.fr hF12 fun b hb=>by obtain ⟨cs,hc⟩:=hOn11.typ hb;exact nL2 hc (by decide)
      have hOi12 : ∀ x ∈ nvs,NdB w w12 x:=fun x hx=>(hOi11 x hx).fr hF12 fun b cs hc=>nL2 hc (by decide)
      have hOd12:=hOd11.fr hF12 fun b hb=>by obtain ⟨cs,hc⟩:=hOd11.typ hb;exact nL2 hc (by decide)
      have hE012 : Ext w w12:=hN hE1011 hF12 (by omega)
      have kn : w12.cell? ⟨g + 1,1,none⟩ = some (.slice A2 nvs.length c2):=hT12.cell 1
      refine goL ?_
      refine xlda (t:=47) hN12 rfl rfl ?_
      refine xbz1 sl_nds rfl rfl (by decide) (by decide) (fun w13 hB13 hE13 hs13=>?_)
      have hE013:=hE012.t hE13
      have hOn13:=hOn12.ext hE13
      have z13:=hE013.size
      obtain ⟨xv,hxv⟩ : ∃ xv : NdV,xv = ⟨{ M with data:=dn },r.nd.va,r.nd.vc,.slice Ad M.data.length cd⟩:=⟨_,rfl⟩
      have hcx : ndC xv = ndC ⟨M,r.nd.va,r.nd.vc,.slice Ad M.data.length cd⟩:=by rw [hxv];rfl
      have hone' : (ndC xv).all (·.oneCell') = true:=by rw [hcx];exact hone
      refine xapz (B:=w.heap.size) (news:=ndC xv) sl_nds rfl (by decide) rfl hOn13 rfl (by rw [hcx];exact blk_row hB13 (by decide) rfl) rfl (List.all_eq_true.1 hone') (by unfold maxLen;omega) (by omega) hE013.size (fun v14 w14 hO14 hF14 _=>?_)
      have hO14' : Ow ndC 12 w14 w.heap.size 47 v14 (nvs ++ [xv]):=Ow.ext1 (l:=nvs) (l':=[xv]) (by simpa using hO14)
      have nb : ∀ {b ty : Nat} {cs : Array Value},Blk w13 b ty cs → ty ≠ 47 → ¬ (Value.slice A2 nvs.length c2).ownBlock = some b:=fun h hne hb=>by
       obtain ⟨cs,hc⟩:=hOn13.typ hb
       exact h.ne_ hc hne rfl
      have hE014 : Ext w w14:=hE013.trans hF14 fun j hj hb=>by have:=(hOn13.blk hb).1;omega
      have hT14:=(hT12.ext hE13).fr hF14 (nb (hT12.ext hE13) (by decide))
      have hR14:=(hR12.ext hE13).fr hF14 (nb (hR12.ext hE13) (by decide))
      have hL14:=(hL12'.ext hE13).fr hF14 (nb (hL12'.ext hE13) (by decide))
      have hB14:=(hB12.ext hE13).fr hF14 (nb (hB12.ext hE13) (by decide))
      have hOe14:=(hOe12.ext hE13).fr hF14 fun b hb=>by obtain ⟨cs,hc⟩:=(hOe12.ext hE13).typ hb;exact nb hc (by decide)
      have hOi14 : ∀ x ∈ nvs,NdB w w14 x:=fun x hx=>((hOi12 x hx).ext hE13).fr hF14 fun b cs hc=>nb hc (by decide)
      have hOd14:=(hOd12.ext hE13).fr hF14 fun b hb=>by obtain ⟨cs,hc⟩:=(hOd12.ext hE13).typ hb;exact nb hc (by decide)
      have hx14 : NdB w w14 xv:=by
       rw [hxv]
       refine ⟨?_,?_,?_,fun b hb=>hOd14.typ hb⟩
       ·show Rw attC w r.nd.va M.attrs
        rw [hM];exact hrI.a
       ·show Rw acC w r.nd.vc M.acl
        rw [hM];exact hrI.c
       ·exact hOd14.rw
      have hv14 : v14.oneCell' = true:=by obtain ⟨Av,cv,rfl,_,_⟩:=hO14'.form;rfl
      refine goL ?_
      refine xstb hT14 rfl rfl (by kernel_rfl) hv14 rfl (fun w15 hB15 hF15=>?_)
      have hB15' : Blk w15 (g + 1) 25 #[.slice A1 t.es.length c1,v14]:=hB15
      have nt : ∀ {b ty : Nat} {cs : Array Value},Blk w14 b ty cs → ty ≠ 25 → ¬ b = g + 1:=fun h hne hb=>h.ne_ hT14 hne hb
      have hd:=hd _ hfo
      have hml : (t.ns.length : Int) = (nvs.length : Int):=by rw [hnvl]
      have hxvn : xv.n = ({ M with data:=dn } : Nd):=by rw [hxv]
      have hxn : ({ r.nd.n with data:=dn } : Nd) = xv.n:=by rw [hxvn,hM]
      dsimp only at hd
      rw [hml,hxn] at hd
      have hnN : ∀ (P : Nd → Prop),(∀ n ∈ t.ns,P n) → P xv.n → ∀ n ∈ t.ns ++ [xv.n],P n:=fun P h1 h2 n hn=>by
       rcases List.mem_append.1 hn with hn | hn
       ·exact h1 n hn
       ·rw [List.mem_singleton.1 hn];exact h2
      refine goL ?_
      refine tfin ⟨((nvs.length : Int),.slice A1 t.es.length c1,v14,nvs ++ [xv],⟨t.es,t.ns ++ [xv.n]⟩),sub ⟨rfl,rfl,rfl,rfl,rfl,rfl,rfl⟩,⟨hB15',hR14.fr hF15 (show ¬ g = g + 1 by omega),hL14.fr hF15 (nt hL14 (by decide)),(hB14.fr hF15 (nt hB14 (by decide))).cell 0,hOe14.fr hF15 (fun b hb=>by obtain ⟨cs,hc⟩:=hOe14.typ hb;exact nt hc (by decide)),hO14'.fr hF15 (fun b hb=>by obtain ⟨cs,hc⟩:=hO14'.typ hb;exact nt hc (by decide)),fun y hy=>?_,?_,hd,rfl,?_,⟨hnN _ hok.b ?_,hnN _ hok.g ?_⟩,hnN _ hnd ?_,hN hE014 hF15 (by omega)⟩⟩
      ·rcases List.mem_append.1 hy with hy | hy
       ·exact (hOi14 y hy).fr hF15 fun b cs hc=>nt hc (by decide)
       ·rw [List.mem_singleton.1 hy];exact hx14.fr hF15 fun b cs hc=>nt hc (by decide)
      ·show (nvs ++ [xv]).map (fun x : NdV=>x.n) = t.ns ++ [xv.n]
       rw [List.map_append,hm];rfl
      ·show (t.ns ++ [_]).length ≤ i + 1
       rw [List.length_append,List.length_singleton];omega
      ·rw [hxvn]
       show bytesP dn ≤ 1000000
       omega
      ·rw [hxvn]
       show M.target.length ≤ _
       rw [hM];exact hrG
      ·rw [hxvn]
       refine ⟨?_,?_,by show dn.length ≤ _;omega⟩
       ·show M.attrs.length ≤ _
        rw [hM];exact hrL.a
       ·show M.acl.length ≤ _
        rw [hM];exact hrL.c
    ·have hll : ¬ r.lead = (i : Int):=of_decide_eq_false hcf
     have hkt : k < t.es.length:=by omega
     obtain ⟨ek,hek⟩ : ∃ ek,t.es[k]? = some ek:=⟨_,List.getElem?_eq_getElem hkt⟩
     obtain rfl : kv = ek.node:=Option.some.inj (hkv.symm.trans (ldL_lt hek))
     have hd : gstp whole (some t) r.p = some ⟨t.es ++ [⟨r.path,ek.node⟩],t.ns⟩:=by
      unfold gstp
      dsimp only
      have e1 : (RcV.p r).lead = r.lead:=rfl
      rw [hokr,e1,hel',Bool.true_and,if_pos (decide_eq_true hli),if_pos (by omega),hkl,Int.toNat_natCast,List.getD_eq_getElem?_getD,hek]
      rfl
     refine goL ?_
     exact tfin ⟨(ek.node,.slice A1 t.es.length c1,.slice A2 nvs.length c2,nvs,t),sub ⟨rfl,rfl,rfl,rfl,rfl,rfl,rfl⟩,⟨hT7,hR7,hL7',hB7.cell 0,hOe7,hOn7,hOi7,hm,hd,rfl,by show t.ns.length ≤ i + 1;omega,⟨hok.b,hok.g⟩,hnd,hE07⟩⟩
   ·rintro ⟨en,ve',vn',nvs',t'⟩ w8 ⟨hT8,hR8,hL8,hC8,hOe8,hOn8,hOi8,hm8,hst,hes,hnl8,hok8,hnd8,hE08⟩
    dsimp only at hT8 hL8 hOe8 hOn8 hOi8 hm8 hst hes hnl8 hok8 hnd8 ⊢
    rw [hes] at hOe8
    obtain ⟨A1',c1',rfl,_,_⟩:=hOe8.form
    have hvn1 : vn'.oneCell' = true:=by obtain ⟨Av,cv,rfl,_,_⟩:=hOn8.form;rfl
    have c90 : w8.drew.cell? ⟨g + 1,0,none⟩ = some (.slice A1' t.es.length c1'):=(hT8.ext (Fr.drew noneB w8)).cell 0
    have c91 : w8.drew.cell? ⟨g9,0,none⟩ = some (.string (su r.path)):=Ext.cell (Fr.drew noneB w8) hC8
    have hli2 : i < (ldL t rl.length).length:=by omega
    have c92 : w8.drew.cell? ⟨gl,0 + i,none⟩ = some (.int .i64 en):=by
     rw [(hL8.ext (Fr.drew noneB w8)).cell,Nat.zero_add,List.getElem?_toArray,List.getElem?_map,List.getElem?_set_self hli2];rfl
    have zd : w8.heap.size ≤ w8.drew.heap.size:=(Fr.drew noneB w8).size
    have z8:=hE08.size
    refine goL ?_
    refine tdrawC 10 [108] (fun w''=>w''.cell? ⟨g + 1,0,none⟩ = some (.slice A1' t.es.length c1')) (by kernel_rfl) (by decide +kernel) c90 ?_
    repeat' (first | refine xldh rfl rfl (fun _ h=>h) ?_ | refine go1L ?_ | fail)
    refine xbd (cells:=(enC ⟨r.path,en⟩).toArray) rfl (by kernel_rfl) ?_
    refine xbz1 sl_ents rfl rfl (by decide) (by decide) (fun w9 hB9 hE9 hs9=>?_) (fun w'' he=>he.cell c90)
    have hE89 : Ext w8 w9:=(Fr.drew noneB w8).t hE9
    have hE09:=hE08.t hE89
    have hOe9:=hOe8.ext hE89
    have hT9:=hT8.ext hE89
    have hR9:=hR8.ext hE89
    have hL9:=hL8.ext hE89
    refine xnil ?_
    refine xapz (B:=w.heap.size) (news:=enC ⟨r.path,en⟩) sl_ents rfl (by decide) rfl hOe9 rfl (blk_row hB9 (by decide) rfl) rfl (List.all_eq_true.1 (rfl : (enC ⟨r.path,en⟩).all (·.oneCell') = true)) (by unfold maxLen;omega) (by omega) hE09.size (fun v10 w10 hO10 hF10 _=>?_)
    have hO10' : Ow enC 2 w10 w.heap.size 53 v10 (t.es ++ [⟨r.path,en⟩]):=Ow.ext1 (l:=t.es) (l':=[⟨r.path,en⟩]) (by simpa using hO10)
    have nb : ∀ {b ty : Nat} {cs : Array Value},Blk w9 b ty cs → ty ≠ 53 → ¬ (Value.slice A1' t.es.length c1').ownBlock = some b:=fun h hne hb=>by
     obtain ⟨cs,hc⟩:=hOe9.typ hb
     exact h.ne_ hc hne rfl
    have hE010 : Ext w w10:=hE09.trans hF10 fun j hj hb=>by have:=(hOe9.blk hb).1;omega
    have hT10:=hT9.fr hF10 (nb hT9 (by decide))
    have hR10:=hR9.fr hF10 (nb hR9 (by decide))
    have hL10:=hL9.fr hF10 (nb hL9 (by decide))
    have hOn10:=(hOn8.ext hE89).fr hF10 fun b hb=>by obtain ⟨cs,hc⟩:=(hOn8.ext hE89).typ hb;exact nb hc (by decide)
    have hOi10 : ∀ y ∈ nvs',NdB w w10 y:=fun y hy=>((hOi8 y hy).ext hE89).fr hF10 fun b cs hc=>nb hc (by decide)
    have hv101 : v10.oneCell' = true:=by obtain ⟨Av,cv,rfl,_,_⟩:=hO10'.form;rfl
    refine goL ?_
    refine xstb hT10 rfl rfl (by kernel_rfl) hv101 rfl (fun w11 hB11 hF11=>?_)
    have hB11' : Blk w11 (g + 1) 25 #[v10,vn']:=hB11
    have nt : ∀ {b ty : Nat} {cs : Array Value},Blk w10 b ty cs → ty ≠ 25 → ¬ b = g + 1:=fun h hne hb=>h.ne_ hT10 hne hb
    have hLe : (ldL t rl.length).set i en = ldL ⟨t.es ++ [⟨r.path,en⟩],t'.ns⟩ rl.length:=by
     rw [← hel]
     exact ldL_set (e:=⟨r.path,en⟩) (by omega)
    rw [hLe] at hL10
    refine goL ?_
    refine tfin ⟨(i + 1,v10,vn',nvs',⟨t.es ++ [⟨r.path,en⟩],t'.ns⟩),sub ⟨rfl,rfl,rfl,rfl,rfl,ieq (by dsimp only;omega)⟩,⟨hlt,hB11',hR10.fr hF11 (show ¬ g = g + 1 by omega),hL10.fr hF11 (nt hL10 (by decide)),hO10'.fr hF11 (fun b hb=>by obtain ⟨cs,hc⟩:=hO10'.typ hb;exact nt hc (by decide)),hOn10.fr hF11 (fun b hb=>by obtain ⟨cs,hc⟩:=hOn10.typ hb;exact nt hc (by decide)),fun y hy=>(hOi10 y hy).fr hF11 fun b cs hc=>nt hc (by decide),hm8,guess_step hri hgo hst,?_,hnl8,⟨hok8.1,hok8.2,fun e he=>?_⟩,hnd8,hN hE010 hF11 (by omega)⟩,(by show rl.length - (i + 1) < rl.length - i;omega)⟩
    ·show (t.es ++ [_]).length = i + 1
     rw [List.length_append,hel];rfl
    ·rcases List.mem_append.1 he with he | he
     ·exact hok.p e he
     ·rw [List.mem_singleton.1 he]
      show r.path.length ≤ _
      omega
  ·have hd : gstp whole (some t) r.p = none:=by
    unfold gstp
    dsimp only
    rw [if_neg]
    rw [Bool.and_eq_true,decide_eq_true_eq,hel]
    exact hokr
   have e : treeM (rl.map RcV.p) whole = none:=by
    rw [treeM_eq,guess_dead hri hgo hd]
   by_cases hok1 : recOK r.p = true
   ·have hli : ¬ r.lead ≤ (i : Int):=fun h=>hokr ⟨hok1,h⟩
    rw [hok1]
    refine goL ?_
    refine xbd (cells:=#[.slice none 0 0,.slice none 0 0]) rfl (by kernel_rfl) ?_
    refine xsta hR6 rfl rfl (by kernel_rfl) rfl (by kernel_rfl) (fun w7 hB7 hF7=>?_)
    refine goL ?_
    refine tretc2 rfl rfl rfl hB7 (by kernel_rfl) ⟨hN hE06 hF7 (by omega),?_⟩
    rw [e]
   ·rw [Bool.not_eq_true] at hok1
    rw [hok1]
    refine goL ?_
    refine xbd (cells:=#[.slice none 0 0,.slice none 0 0]) rfl (by kernel_rfl) ?_
    refine xsta hR6 rfl rfl (by kernel_rfl) rfl (by kernel_rfl) (fun w7 hB7 hF7=>?_)
    refine goL ?_
    refine tretc2 rfl rfl rfl hB7 (by kernel_rfl) ⟨hN hE06 hF7 (by omega),?_⟩
    rw [e]
 ·have hie : i = rl.length:=by omega
  have hgo : guessM (rl.map RcV.p) whole = some t:=by
   rw [hie,List.take_length] at hgo;exact hgo
  have eT:=treeM_eq (rl.map RcV.p) whole
  rw [hgo] at eT
  dsimp only at eT
  have hOi' : ∀ x ∈ nvs,NdIn w' x:=fun x hx=>(hOi x hx).in hE
  have hTv : TrV w' (.slice A1 t.es.length c1) (.slice A2 nvs.length c2) nvs t:=⟨hOe.rw,hOn.rw,hOi',hm⟩
  have hone:=one_cells (l:=[.slice A1 t.es.length c1,.slice A2 nvs.length c2]) rfl
  refine goL ?_
  refine xlda (t:=25) hT rfl rfl ?_
  refine xcallE rfl rfl (rrecs_does w' _ _ nvs t hTv hok hnd (by omega)) (fun v w4 h4=>?_)
  obtain ⟨hE4,h4⟩:=h4
  have hE04:=hE.t hE4
  have hR4:=hR.ext hE4
  have hT4:=hT.ext hE4
  have hdead : ∀ {w5 : World} (hR5 : Blk w5 g 25 #[.slice none 0 0,.slice none 0 0]) (hE05 : Ext w w5),treeM (rl.map RcV.p) whole = none → ∀ w7,Blk w7 g 25 #[.slice none 0 0,.slice none 0 0] → Fr (· = g) w5 w7 → TreR w rl whole (.tuple #[.agg #[.slice none 0 0,.slice none 0 0],.int .i64 3]) w7:=fun hR5 hE05 e w7 hB7 hF7=>⟨hN hE05 hF7 (by omega),by rw [e]⟩
  by_cases hm1 : mayT t = true
  ·rw [if_pos hm1] at h4
   obtain ⟨va,al,rfl,hal,hap,hai⟩:=h4
   by_cases hwe : (recsM t).whole = whole
   ·repeat' (first | refine xucmp (op:=.neq) (r:=false) rfl rfl (by simp [cmpU,hwe]) ?_ | refine go1L ?_ | fail)
    refine xcallE rfl rfl (rrecsames_does w4 va _ al rl hal.rw (Row.ext hr0 hE04) (fun x hx=>(hai x hx).in hE4) (fun x hx=>(hk x hx).i.ext hE04)) (fun v w5 h5=>?_)
    obtain ⟨rfl,hE5⟩:=h5
    have hE05:=hE04.t hE5
    by_cases hs : al.map RcV.p = rl.map RcV.p
    ·rw [decide_eq_true hs]
     rw [if_pos ⟨hm1,hap ▸ hs,hwe⟩] at eT
     have hE'5:=hE4.t hE5
     refine goL ?_
     refine xlda (t:=25) (hT4.ext hE5) rfl rfl ?_
     refine xsta (hR4.ext hE5) rfl rfl (by kernel_rfl) rfl hone (fun w7 hB7 hF7=>?_)
     have nt : ∀ {b ty : Nat} {cs : Array Value},Blk w5 b ty cs → ty ≠ 25 → ¬ b = g:=fun h hne hb=>h.ne_ (hR4.ext hE5) hne hb
     refine goL ?_
     refine tretc2 rfl rfl rfl hB7 (by kernel_rfl) ⟨hN hE05 hF7 (by omega),?_⟩
     rw [eT]
     refine ⟨_,_,nvs,rfl,⟨((hOe.ext hE'5).fr hF7 fun b hb=>by obtain ⟨cs,hc⟩:=(hOe.ext hE'5).typ hb;exact nt hc (by decide)).rw,((hOn.ext hE'5).fr hF7 fun b hb=>by obtain ⟨cs,hc⟩:=(hOn.ext hE'5).typ hb;exact nt hc (by decide)).rw,fun x hx=>(((hOi x hx).ext hE'5).fr hF7 fun b cs hc=>nt hc (by decide)).in (hN hE05 hF7 (by omega)),hm⟩⟩
    ·rw [decide_eq_false hs]
     rw [if_neg (fun ⟨_,h5,_⟩=>hs (hap.trans h5))] at eT
     refine goL ?_
     refine xbd (cells:=#[.slice none 0 0,.slice none 0 0]) rfl (by kernel_rfl) ?_
     refine xsta (hR4.ext hE5) rfl rfl (by kernel_rfl) rfl (by kernel_rfl) (fun w7 hB7 hF7=>?_)
     refine goL ?_
     exact tretc2 rfl rfl rfl hB7 (by kernel_rfl) (hdead (hR4.ext hE5) hE05 eT w7 hB7 hF7)
   ·rw [if_neg (fun ⟨_,_,h5⟩=>hwe h5)] at eT
    repeat' (first | refine xucmp (op:=.neq) (r:=true) rfl rfl (by simp [cmpU,hwe]) ?_ | refine go1L ?_ | fail)
    refine xbd (cells:=#[.slice none 0 0,.slice none 0 0]) rfl (by kernel_rfl) ?_
    refine xsta hR4 rfl rfl (by kernel_rfl) rfl (by kernel_rfl) (fun w7 hB7 hF7=>?_)
    refine goL ?_
    exact tretc2 rfl rfl rfl hB7 (by kernel_rfl) (hdead hR4 hE04 eT w7 hB7 hF7)
  ·rw [if_neg hm1] at h4
   subst h4
   rw [if_neg (fun ⟨h5,_⟩=>hm1 h5)] at eT
   refine goL ?_
   refine xbd (cells:=#[.slice none 0 0,.slice none 0 0]) rfl (by kernel_rfl) ?_
   refine xsta hR4 rfl rfl (by kernel_rfl) rfl (by kernel_rfl) (fun w7 hB7 hF7=>?_)
   refine goL ?_
   exact tretc2 rfl rfl rfl hB7 (by kernel_rfl) (hdead hR4 hE04 eT w7 hB7 hF7)
end
end Go.Proofs.YtbpmlbjapapoaaaGreatDoor.Eng
