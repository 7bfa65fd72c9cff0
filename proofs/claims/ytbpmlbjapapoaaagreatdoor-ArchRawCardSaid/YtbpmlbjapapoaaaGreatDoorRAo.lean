/-
  Parts of the proof: Ao.
-/
import Derived.Test.YtbpmlbjapapoaaaGreatDoorRB16
set_option maxRecDepth 100000
set_option maxHeartbeats 64000000
namespace Go.Proofs.YtbpmlbjapapoaaaGreatDoor.Eng
open Go.RowKit
section
open Go.RowKit Go.Lib
attribute [local irreducible] xs T
theorem rlong_does (w : World) (s : Str) (hsl : s.length ≤ 1000000) : Does Tryz.prog 62 #[.string (su s)] w fun r w'=>r = .int .i64 (lenS s : Int) ∧ Ext w w':=by
 refine does1 Tryz.func62 rfl (by kernel_rfl) ?_
 refine gz2 ?_
 refine tloop (α:=Nat × Nat) (fun y=>[(0,.string (su s)),(3,.int .i64 (y.2 : Int)),(4,.int .i64 (y.1 : Int))]) (fun y w'=>Ext w w' ∧ y.1 ≤ s.length ∧ y.1 ≤ 5 ∧ y.2 < 10 ^ y.1 ∧ digF y.2 (s.drop y.1) = digF 0 s ∧ (1 ≤ y.1 → s.head? ≠ some 48)) (fun y=>s.length - y.1) (0,0) (sub ⟨rfl,rfl,rfl⟩) ⟨Fr.refl _ _,Nat.zero_le _,Nat.zero_le _,by decide,rfl,fun h=>absurd h (by decide)⟩ ?_
 rintro ⟨i,n⟩ w' ⟨hE,hi,hi5,hn,hgo,hhd⟩
 dsimp only at hi hi5 hn hgo hhd ⊢
 have hp : 10 ^ i ≤ 10 ^ 5:=Nat.pow_le_pow_right (by decide) hi5
 have hn5 : n < 100000:=by omega
 by_cases hlt : i < s.length ∧ i < 5
 ·obtain ⟨hlt,hlt5⟩:=hlt
  obtain ⟨c,hc⟩ : ∃ c,s[i]? = some c:=⟨_,List.getElem?_eq_getElem hlt⟩
  have hdr : s.drop i = c :: s.drop (i + 1):=by
   rw [List.drop_eq_getElem_cons hlt];congr 1;exact (List.getElem?_eq_some_iff.1 hc).2
  obtain ⟨c0,hc0⟩ : ∃ c0,s[0]? = some c0:=⟨_,List.getElem?_eq_getElem (by omega)⟩
  have hh0 : s.head? = some c0:=by rw [← hc0];cases s <;> rfl
  rw [hdr,digF] at hgo
  have hcl:=c.toNat_lt
  have hcl0:=c0.toNat_lt
  by_cases g1 : 48 ≤ c.toNat ∧ c.toNat ≤ 57
  ·rw [if_pos g1] at hgo
   obtain ⟨ga,gb⟩:=g1
   by_cases g0 : c0.toNat = 48
   ·have e0 : lenS s = 0:=by
     unfold lenS
     rw [if_pos (.inr (by rw [hh0];congr 1;exact UInt8.toNat_inj.1 g0))]
    rw [e0]
    repeat' (first | refine xui (z:=c) i rfl rfl rfl rfl hc ?_ | refine xui (z:=c0) 0 rfl rfl rfl rfl hc0 ?_ | refine xuln1 rfl rfl ?_ | refine xuln rfl rfl ?_ | refine go1L ?_ | fail)
    exact y6
   ·have hne : s.head? ≠ some 48:=fun h=>g0 (by rw [hh0] at h;rw [Option.some.inj h];rfl)
    have hpow : 10 ^ (i + 1) = 10 * 10 ^ i:=by rw [Nat.pow_succ,Nat.mul_comm]
    repeat' (first | refine xui (z:=c) i rfl rfl rfl rfl hc ?_ | refine xui (z:=c0) 0 rfl rfl rfl rfl hc0 ?_ | refine xsub8 rfl rfl (by omega) (by omega) ?_ | refine xuln1 rfl rfl ?_ | refine xuln rfl rfl ?_ | refine go1LU ?_ | fail)
    exact tfin ⟨(i + 1,10 * n + (c.toNat - 48)),sub ⟨rfl,ieq (by dsimp only;omega),ieq (by dsimp only;omega)⟩,⟨hE,hlt,hlt5,(by show 10 * n + (c.toNat - 48) < 10 ^ (i + 1);omega),hgo,fun _=>hne⟩,(by show s.length - (i + 1) < s.length - i;omega)⟩
  ·rw [if_neg g1] at hgo
   have e0 : lenS s = 0:=by
    unfold lenS
    split
    ·rfl
    ·rw [← hgo]
   rw [e0]
   by_cases g2 : c.toNat < 48
   ·refine gz3 ?_
    exact y6
   ·have g3 : 57 < c.toNat:=by omega
    refine gz3 ?_
    exact y6
 ·by_cases h4 : 4 < s.length
  ·have e0 : lenS s = 0:=by unfold lenS;rw [if_pos (.inl h4)]
   have h5 : ¬ i < 5:=fun h=>hlt ⟨by omega,h⟩
   rw [e0]
   by_cases hil : i < s.length
   ·refine gz2 ?_
    exact y6
   ·refine gz2 ?_
    exact y6
  ·have hil : i = s.length:=by omega
   have hne : s.head? ≠ some 48:=by
    cases s with
    | nil=>exact fun h=>by cases h
    | cons c r=>exact hhd (by rw [hil];simp)
   rw [hil,List.drop_length,digF] at hgo
   have e1 : lenS s = if 4000 < n then 0 else n:=by
    unfold lenS
    rw [if_neg (fun h=>h.elim h4 hne),← hgo]
   by_cases hb : 4000 < n
   ·rw [e1,if_pos hb]
    refine gz2 ?_
    exact y6
   ·rw [e1,if_neg hb]
    refine gz2 ?_
    exact y6
theorem zeroR_does (w : World) (x : NdV) (hx : NdIn w x) : Does Tryz.prog 61 #[.agg (ndC x).toArray] w fun r w'=>r = .bool (decide (x.n = ndZ)) ∧ Ext w w':=by
 refine does1 Tryz.func61 rfl (by kernel_rfl) ?_
 refine goL ?_
 refine xbox rfl (fun w1 hB1 hE1 hs1=>?_)
 refine goL ?_
 refine xlda (t:=47) hB1 rfl rfl ?_
 refine xbd (cells:=(ndC ndZV).toArray) rfl (by kernel_rfl) ?_
 refine xcall rfl rfl (rsame_does w1 x ndZV (hx.ext hE1) ⟨Rw.nil _ _ (by decide),Rw.nil _ _ (by decide),Rw.nil _ _ (by decide)⟩) (fun r w2 h2=>?_)
 obtain ⟨rfl,hE2⟩:=h2
 refine goL ?_
 exact tret1 rfl rfl ⟨rfl,hE1.t hE2⟩
def fullR (n : Nd) : Option Nd:=if lensOK n.data then some { n with data:=n.data.map (fulP 0) } else none
structure RfI (w : World) (x : NdV) (g : Nat) (y : Nat × Value) (w' : World) : Prop where
 le : y.1 ≤ x.n.data.length
 o : Ow pcC 2 w' w.heap.size 65 y.2 ((x.n.data.take y.1).map (fulP 0))
 B : Blk w' g 47 (ndC x).toArray
 R : Blk w' (g + 1) 47 (ndC ndZV).toArray
 ok : lensOK (x.n.data.take y.1) = true
 ext : Ext w w'
def RFulR (w : World) (x : NdV) (r : Value) (w' : World) : Prop:=Ext w w' ∧ match fullR x.n with
 | some m=>∃ vd,r = .tuple #[.agg (ndC ⟨m,x.va,x.vc,vd⟩).toArray,.bool (nodeOK m)] ∧ Ow pcC 2 w' w.heap.size 65 vd m.data
 | none=>r = .tuple #[.agg (ndC ndZV).toArray,.bool false]
theorem bytes_ful (c : UInt8) : ∀ l : List Pce,bytesP (l.map (fulP c)) ≤ 4000 * l.length
 | []=>Nat.zero_le _
 | p :: r=>by
  have i:=bytes_ful c r
  rw [List.map_cons,bytesP,List.length_cons]
  have : (fulP c p).data.length ≤ 4000:=by
   show (List.replicate _ _).length ≤ _
   rw [List.length_replicate];exact lenS_le _
  omega
theorem bs_zero (n : Nat) : (Array.replicate n (Value.int .u8 0)).toList = bs (List.replicate n 0):=by
 rw [bs_map]
 simp
theorem rfull_does (w : World) (x : NdV) (hx : NdIn w x) (hd : x.n.data.length ≤ 200) (htl : x.n.target.length ≤ 1000000) (hpl : ∀ p ∈ x.n.data,p.data.length ≤ 1000000) : Does Tryz.prog 34 #[.agg (ndC x).toArray] w (RFulR w x):=by
 refine does1 Tryz.func34 rfl (by kernel_rfl) ?_
 have hN : ∀ {a b c : World} {g : Nat},Ext a b → Fr (· = g) b c → a.heap.size ≤ g → Ext a c:=fun h1 h2 hg=>h1.trans h2 fun j hj e=>absurd hj (by omega)
 obtain ⟨Aa,ca,hva,_,_,_⟩:=hx.a.op attC_len
 obtain ⟨Ac,cc,hvc,_,_,_⟩:=hx.c.op acC_len
 obtain ⟨Ad,cd,hvd,_,_,hD⟩:=hx.d.op pcC_len
 refine goL ?_
 refine xbox rfl (fun w1 hB1 hE1 hs1=>?_)
 obtain ⟨g,hg⟩ : ∃ g,g = w.heap.size:=⟨_,rfl⟩
 rw [← hg] at hB1 hs1 ⊢
 refine goL ?_
 refine xalloc (z:=.agg (ndC ndZV).toArray) (by kernel_rfl) (fun w2 hB2 hE2 hs2=>?_)
 rw [hs1] at hB2 hs2 ⊢
 have hB : Blk w2 g 47 (ndC x).toArray:=Blk.ext hB1 hE2
 have hE02 : Ext w w2:=hE1.t hE2
 refine goL ?_
 refine tloop (α:=Nat × Value) (fun y=>[(1,.pointer (some ⟨g,0,none⟩)),(2,.pointer (some ⟨g + 1,0,none⟩)),(4,y.2),(5,.int .i64 (y.1 : Int))]) (RfI w x g) (fun y=>x.n.data.length - y.1) (0,.slice none 0 0) (sub ⟨rfl,rfl,rfl,rfl⟩) ⟨Nat.zero_le _,Ow.nil _ _ _,hB,hB2,rfl,hE02⟩ ?_
 rintro ⟨i,v⟩ w' ⟨hi,ho,hB',hR',hok,hE'⟩
 dsimp only at hi ho hok ⊢
 have k8 : w'.cell? ⟨g,8,none⟩ = some (.slice Ad x.n.data.length cd):=by rw [← hvd];exact hB'.cell 8
 by_cases hlt : i < x.n.data.length
 ·obtain ⟨b,o,p,rfl,hbl,hp,_,hcell⟩:=hD.at_ hlt
  have hpm:=hpl p (List.mem_of_getElem? hp)
  have hll:=lenS_le p.data
  obtain ⟨Af,cf,rfl,_,_⟩:=ho.form
  have hl : ((x.n.data.take i).map (fulP 0)).length = i:=by rw [List.length_map,List.length_take];omega
  have k1 : w'.cell? ⟨b,o + i * 2 + 1,none⟩ = some (.string (su p.data)):=hE'.cell (hcell 1 _ rfl)
  refine gz4 ?_
  refine xcallE rfl rfl (rlong_does w' p.data hpm) (fun r w3 h3=>?_)
  obtain ⟨rfl,hE3⟩:=h3
  have hE03:=hE'.t hE3
  have hB3:=hB'.ext hE3
  have hR3:=hR'.ext hE3
  have ho3:=ho.ext hE3
  by_cases hz : lenS p.data = 0
  ·rw [hz]
   refine goL ?_
   refine xbd (cells:=(ndC ndZV).toArray) rfl (by kernel_rfl) ?_
   refine xsta hR3 rfl rfl (by kernel_rfl) rfl (by kernel_rfl) (fun w7 hB7 hF7=>?_)
   refine goL ?_
   refine tretc2 rfl rfl rfl hB7 (by kernel_rfl) ⟨hN hE03 hF7 (by omega),?_⟩
   unfold fullR
   rw [lensOK_not hp hz]
   rfl
  have hst : (x.n.data.take (i + 1)).map (fulP 0) = (x.n.data.take i).map (fulP 0) ++ [fulP 0 p]:=by
   rw [take_one hp,List.map_append];rfl
  have hH0 : ∀ w'',Ext w3 w'' → w''.cell? ⟨g,8,none⟩ = some (.slice (some ⟨b,o,none⟩) x.n.data.length cd) ∧ w''.cell? ⟨b,o + i * 2 + 0,none⟩ = some (.int .i64 p.pos):=fun w'' h=>⟨h.cell (hE3.cell k8),Ext.cell h (Ext.cell hE03 (hcell 0 _ rfl))⟩
  refine goL ?_
  refine tdrawH [26,30] (fun w''=>w''.cell? ⟨g,8,none⟩ = some (.slice (some ⟨b,o,none⟩) x.n.data.length cd) ∧ w''.cell? ⟨b,o + i * 2 + 0,none⟩ = some (.int .i64 p.pos)) (by kernel_rfl) (by decide +kernel) (hH0 _ (Fr.drew _ _)) ?_
  repeat' (first | refine xldh rfl rfl (fun _ h=>h.1) ?_ | refine xldh rfl rfl (fun _ h=>h.2) ?_ | refine xizq i (o + i * 2) rfl rfl rfl rfl rfl hlt ?_ | refine xuln1 rfl rfl ?_ | refine xuln rfl rfl ?_ | refine go1L ?_ | fail)
  refine xmk sl_by rfl rfl rfl (by omega) (by omega) (by omega) (fun w4 hB4 hE4 hs4=>?_) (fun w'' h=>hH0 w'' ((Fr.drew _ _).t h))
  rw [Int.toNat_natCast] at hB4 ⊢
  have hrow : Row w4 (.slice (some ⟨w3.drew.heap.size,0,none⟩) (lenS p.data) (lenS p.data)) (List.replicate (lenS p.data) (0 : UInt8)).length (bs (List.replicate (lenS p.data) 0)):=by
   rw [List.length_replicate]
   have e : Array.replicate (lenS p.data) (Value.int .u8 0) = (bs (List.replicate (lenS p.data) 0)).toArray:=by rw [← bs_zero]
   rw [e] at hB4
   exact blk_row hB4 (by unfold maxLen;omega) rfl
  refine xcbr (r:=List.replicate (lenS p.data) 0) rfl hrow ?_
  refine xbd (cells:=(pcC (fulP 0 p)).toArray) rfl (by kernel_rfl) ?_
  have hE34 : Ext w3 w4:=(Fr.drew noneB w3).t hE4
  refine xbz1 sl_pcs rfl rfl (by decide) (by decide) (fun w5 hB5 hE5 hs5=>?_) (fun w'' h=>hH0 w'' (hE34.t h))
  have hE35 : Ext w3 w5:=hE34.t hE5
  have hE05 : Ext w w5:=hE03.t hE35
  have ho5:=ho3.ext hE35
  refine xapz (B:=w.heap.size) (news:=pcC (fulP 0 p)) sl_pcs rfl (by decide) rfl ho5 rfl (blk_row hB5 (by decide) rfl) rfl (List.all_eq_true.1 (rfl : (pcC (fulP 0 p)).all (·.oneCell') = true)) (by rw [hl];unfold maxLen;omega) (by rw [hl];omega) hE05.size (fun v6 w6 hO6 hF6 _=>?_) (fun w'' hF=>by
   have hbb : ∀ j,(Value.slice Af ((x.n.data.take i).map (fulP 0)).length cf).ownBlock = some j → ¬ (j = g ∨ j = b):=fun j hj=>by
    rintro (e | e)
    ·obtain ⟨cs,hc⟩:=ho.typ hj;exact hc.ne_ hB' (by decide) e
    ·have:=(ho.blk hj).1;omega
   have q:=hH0 w5 hE35
   exact ⟨hF.cell q.1 (fun h=>hbb _ h (.inl rfl)),hF.cell q.2 (fun h=>hbb _ h (.inr rfl))⟩)
  have hO6' : Ow pcC 2 w6 w.heap.size 65 v6 ((x.n.data.take (i + 1)).map (fulP 0)):=by
   rw [hst];exact Ow.ext1 (l':=[fulP 0 p]) (by simpa using hO6)
  have hB5':=hB3.ext hE35
  have hR5':=hR3.ext hE35
  have hE06 : Ext w w6:=hE05.trans hF6 fun j hj h=>by have:=(ho5.blk h).1;omega
  refine goL ?_
  exact tfin ⟨(i + 1,v6),sub ⟨rfl,rfl,rfl,rfl⟩,⟨hlt,hO6',hB5'.fr hF6 (fun e=>by obtain ⟨cs,hc⟩:=ho5.typ e;exact hc.ne_ hB5' (by decide) rfl),hR5'.fr hF6 (fun e=>by obtain ⟨cs,hc⟩:=ho5.typ e;exact hc.ne_ hR5' (by decide) rfl),lensOK_all hp hok hz,hE06⟩,(by show x.n.data.length - (i + 1) < x.n.data.length - i;omega)⟩
 ·obtain rfl : i = x.n.data.length:=by omega
  rw [List.take_length] at ho hok
  have e : fullR x.n = some { x.n with data:=x.n.data.map (fulP 0) }:=if_pos hok
  obtain ⟨Af,cf,rfl,_,_⟩:=ho.form
  refine goL ?_
  refine xstb hB' rfl rfl (by kernel_rfl) rfl rfl (fun w7 hB7 hF7=>?_)
  have hB7' : Blk w7 g 47 (ndC ⟨{ x.n with data:=x.n.data.map (fulP 0) },x.va,x.vc,.slice Af (x.n.data.map (fulP 0)).length cf⟩).toArray:=hB7
  have hR7:=hR'.fr hF7 (show ¬ g + 1 = g by omega)
  have ho7:=ho.fr hF7 fun b hb e=>by obtain ⟨cs,hc⟩:=ho.typ hb;exact hc.ne_ hB' (by decide) e
  have hE7:=hN hE' hF7 (by omega)
  have hE7d : Ext w w7.drew:=hE7.t (Fr.drew _ w7)
  have hBd : Blk w7.drew g 47 (ndC ⟨{ x.n with data:=x.n.data.map (fulP 0) },x.va,x.vc,.slice Af (x.n.data.map (fulP 0)).length cf⟩).toArray:=hB7'.ext (Fr.drew noneB w7)
  have hin : NdIn w7.drew ⟨{ x.n with data:=x.n.data.map (fulP 0) },x.va,x.vc,.slice Af (x.n.data.map (fulP 0)).length cf⟩:=⟨hx.a.ext hE7d,hx.c.ext hE7d,(ho7.ext (Fr.drew noneB w7)).rw⟩
  have hbl:=bytes_ful 0 x.n.data
  refine goL ?_
  refine tdrawH [39] (fun w''=>Blk w'' g 47 (ndC ⟨{ x.n with data:=x.n.data.map (fulP 0) },x.va,x.vc,.slice Af (x.n.data.map (fulP 0)).length cf⟩).toArray) (by kernel_rfl) (by decide +kernel) hBd ?_
  refine xldzh (cs:=ndC ⟨{ x.n with data:=x.n.data.map (fulP 0) },x.va,x.vc,.slice Af (x.n.data.map (fulP 0)).length cf⟩) rfl rfl (fun w'' h j u hu=>by rw [h.cell,Nat.zero_add,List.getElem?_toArray];exact hu) ?_
  refine xlda (t:=47) hBd rfl rfl ?_
  refine xcall rfl rfl (rnodemay_does w7.drew _ hin (by show bytesP (x.n.data.map (fulP 0)) ≤ _;omega) htl) (fun r w8 h8=>?_) (fun r w8 h8=>hBd.ext h8.2)
  obtain ⟨rfl,hE8⟩:=h8
  have hB8:=hBd.ext hE8
  have hR8:=(hR7.ext (Fr.drew noneB w7)).ext hE8
  have ho8:=(ho7.ext (Fr.drew noneB w7)).ext hE8
  refine xsta hR8 rfl rfl (by kernel_rfl) rfl (one_cells (one_nd hin)) (fun w9 hB9 hF9=>?_) (fun w9 hF9=>hB8.fr hF9 (show ¬ g = g + 1 by omega))
  have hE9 : Ext w w9:=hN (hE7d.t hE8) hF9 (by omega)
  have ho9:=ho8.fr hF9 fun b hb e=>by obtain ⟨cs,hc⟩:=ho8.typ hb;exact hc.ne_ hR8 (by decide) e
  refine goL ?_
  refine tretc2 rfl rfl rfl hB9 (by kernel_rfl) ⟨hE9,?_⟩
  rw [e]
  exact ⟨_,rfl,ho9⟩
def recOKR (r : RcP) : Bool:=mayP r.path && decide (0 ≤ r.lead) && decide (r.lead < 100) && decide (0 ≤ r.pos) && decide (r.pos ≤ 400000) &&
 (if r.nd = ndZ then decide (r.pos = 0) else match fullR r.nd with
  | none=>false
  | some n=>nodeOK n && (decide (r.pos = 0) || decide (r.nd.data ≠ [])))
theorem shp_ful (a b : UInt8) (l : List Pce) : shp (l.map (fulP a)) = shp (l.map (fulP b)):=by
 unfold shp
 rw [List.map_map,List.map_map]
 apply List.map_congr_left
 intro p _
 show (p.pos,(List.replicate (lenS p.data) a).length) = (p.pos,(List.replicate (lenS p.data) b).length)
 rw [List.length_replicate,List.length_replicate]
theorem recOKR_eq (r : RcP) : recOKR r = recOK r:=by
 unfold recOKR recOK
 congr 1
 by_cases hz : r.nd = ndZ
 ·rw [if_pos hz,if_pos hz]
 rw [if_neg hz,if_neg hz]
 by_cases hk : r.nd.kind = 2
 ·by_cases h16 : 16 < r.nd.data.length
  ·have e1 : fullN r.nd = none:=by unfold fullN;rw [if_neg (fun h=>h hk),if_pos h16]
   rw [e1]
   unfold fullR
   by_cases hl : lensOK r.nd.data = true
   ·rw [if_pos hl]
    show (nodeOK { r.nd with data:=r.nd.data.map (fulP 0) } && _) = false
    cases ho : nodeOK { r.nd with data:=r.nd.data.map (fulP 0) } with
    | false=>rfl
    | true=>
     have:=(nodeOK_data ho).1
     have : (r.nd.data.map (fulP 0)).length ≤ 16:=this
     rw [List.length_map] at this
     omega
   ·rw [if_neg hl]
  ·by_cases hl : lensOK r.nd.data = true
   ·have e1 : fullN r.nd = some { r.nd with data:=r.nd.data.map (fulP 120) }:=by unfold fullN;rw [if_neg (fun h=>h hk),if_neg h16,if_pos hl]
    have e2 : fullR r.nd = some { r.nd with data:=r.nd.data.map (fulP 0) }:=if_pos hl
    rw [e1,e2]
    show (nodeOK { r.nd with data:=r.nd.data.map (fulP 0) } && _) = (nodeOK { r.nd with data:=r.nd.data.map (fulP 120) } && _)
    have:=nodeOK_shp (n:={ r.nd with data:=r.nd.data.map (fulP 120) }) (d:=r.nd.data.map (fulP 0)) (shp_ful 120 0 r.nd.data)
    rw [show ({ r.nd with data:=r.nd.data.map (fulP 0) } : Nd) = { ({ r.nd with data:=r.nd.data.map (fulP 120) } : Nd) with data:=r.nd.data.map (fulP 0) } from rfl,this,decide_eq_true hk,Bool.true_and]
   ·have e1 : fullN r.nd = none:=by unfold fullN;rw [if_neg (fun h=>h hk),if_neg h16,if_neg hl]
    have e2 : fullR r.nd = none:=if_neg hl
    rw [e1,e2]
 ·have e1 : fullN r.nd = some r.nd:=if_pos hk
  rw [e1]
  dsimp only
  rw [decide_eq_false hk,Bool.false_and,Bool.or_false]
  by_cases hd : r.nd.data = []
  ·have e2 : fullR r.nd = some r.nd:=by
    unfold fullR lensOK
    rw [hd]
    obtain ⟨p,l,n,q⟩:=r
    cases n
    simp only at hd
    subst hd
    rfl
   rw [e2]
   dsimp only
   rw [show decide (r.nd.data ≠ []) = false from decide_eq_false (fun h=>h hd),Bool.or_false]
  ·have e3 : nodeOK r.nd = false:=by
    cases ho : nodeOK r.nd with
    | false=>rfl
    | true=>
     rcases (nodeOK_data ho).2.2.2.1 with h | h
     ·exact absurd h hk
     ·exact absurd h hd
   rw [e3,Bool.false_and]
   unfold fullR
   by_cases hl : lensOK r.nd.data = true
   ·rw [if_pos hl]
    dsimp only
    cases ho : nodeOK { r.nd with data:=r.nd.data.map (fulP 0) } with
    | false=>rfl
    | true=>
     rcases (nodeOK_data ho).2.2.2.1 with h | h
     ·exact absurd h hk
     ·have h : r.nd.data.map (fulP 0) = []:=h
      exact absurd (List.map_eq_nil_iff.1 h) hd
   ·rw [if_neg hl]
theorem rrecmay_does (w : World) (r : RcV) (hr : NdIn w r.nd) (hd : r.nd.n.data.length ≤ 200) (htl : r.nd.n.target.length ≤ 1000000) (hpl : ∀ p ∈ r.nd.n.data,p.data.length ≤ 1000000) (hp : r.path.length ≤ 1000000) : Does Tryz.prog 33 #[.agg (rcC r).toArray] w fun v w'=>v = .bool (recOK r.p) ∧ Ext w w':=by
 refine does1 Tryz.func33 rfl (by kernel_rfl) ?_
 obtain ⟨pth,ld,nd,pos⟩:=r
 dsimp only at hr hd htl hpl hp
 have hN : ∀ {a b c : World} {g : Nat},Ext a b → Fr (· = g) b c → a.heap.size ≤ g → Ext a c:=fun h1 h2 hg=>h1.trans h2 fun j hj e=>absurd hj (by omega)
 have eR : recOKR (RcV.p ⟨pth,ld,nd,pos⟩) = (mayP pth && decide (0 ≤ ld) && decide (ld < 100) && decide (0 ≤ pos) && decide (pos ≤ 400000) &&
  (if nd.n = ndZ then decide (pos = 0) else match fullR nd.n with
  | none=>false
  | some n=>nodeOK n && (decide (pos = 0) || decide (nd.n.data ≠ [])))):=rfl
 rw [← recOKR_eq,eR]
 obtain ⟨Ad,cd,hvd,_,_,_⟩:=hr.d.op pcC_len
 obtain ⟨Aa,ca,hva,_,_,_⟩:=hr.a.op attC_len
 obtain ⟨Ac,cc,hvc,_,_,_⟩:=hr.c.op acC_len
 refine goL ?_
 refine xbox rfl (fun w1 hB1 hE1 hs1=>?_)
 obtain ⟨g,hg⟩ : ∃ g,g = w.heap.size:=⟨_,rfl⟩
 rw [← hg] at hB1 hs1 ⊢
 have hB1 : Blk w1 g 49 (rcC ⟨pth,ld,nd,pos⟩).toArray:=hB1
 have k0 : w1.cell? ⟨g,0,none⟩ = some (.string (su pth)):=hB1.cell 0
 refine goL ?_
 refine xcallE rfl rfl (rmay_does w1 pth hp) (fun v w2 h2=>?_)
 obtain ⟨rfl,hE2⟩:=h2
 have hB2:=hB1.ext hE2
 have hE02:=hE1.t hE2
 have k1 : w2.cell? ⟨g,1,none⟩ = some (.int .i64 ld):=hB2.cell 1
 have k14 : w2.cell? ⟨g,14,none⟩ = some (.int .i64 pos):=hB2.cell 14
 by_cases hall : mayP pth = true ∧ 0 ≤ ld ∧ ld < 100 ∧ 0 ≤ pos ∧ pos ≤ 400000
 ·obtain ⟨h1,h2,h3,h4,h5⟩:=hall
  have e1 : ∀ b : Bool,(mayP pth && decide (0 ≤ ld) && decide (ld < 100) && decide (0 ≤ pos) && decide (pos ≤ 400000) && b) = b:=fun b=>by
   rw [h1,decide_eq_true h2,decide_eq_true h3,decide_eq_true h4,decide_eq_true h5];rfl
  rw [e1,h1]
  refine goL ?_
  refine xldz (cs:=ndC nd) rfl rfl (rc_nd hB2) ?_
  refine xcallE rfl rfl (zeroR_does w2 nd (hr.ext hE02)) (fun v w3 h3=>?_)
  obtain ⟨rfl,hE3⟩:=h3
  have hB3:=hB2.ext hE3
  have hE03:=hE02.t hE3
  by_cases hz : nd.n = ndZ
  ·have k14 : w3.cell? ⟨g,14,none⟩ = some (.int .i64 pos):=hB3.cell 14
   rw [decide_eq_true hz,if_pos hz]
   refine goL ?_
   refine xeqb rfl rfl (fun q hq=>?_)
   refine goL ?_
   refine tret1 rfl rfl ⟨?_,hE03⟩
   congr 1
   rw [Bool.eq_iff_iff,hq,decide_eq_true_eq]
  ·rw [decide_eq_false hz,if_neg hz]
   refine goL ?_
   refine xldz (cs:=ndC nd) rfl rfl (rc_nd hB3) ?_
   refine xcallE rfl rfl (rfull_does w3 nd (hr.ext hE03) hd htl hpl) (fun v w4 h4=>?_)
   obtain ⟨hE4,h4⟩:=h4
   have hB4:=hB3.ext hE4
   have hE04:=hE03.t hE4
   cases hf : fullR nd.n with
   | none=>
    exact y18
   | some m=>
    rw [hf] at h4
    obtain ⟨vd,rfl,hO4⟩:=h4
    obtain ⟨Af,cf,rfl,_,_⟩:=hO4.form
    have hone : (ndC ⟨m,nd.va,nd.vc,.slice Af m.data.length cf⟩).all (·.oneCell') = true:=by rw [hva,hvc];rfl
    refine goL ?_
    refine xalloc (z:=.agg (ndC ndZV).toArray) (by kernel_rfl) (fun w5 hB5 hE5 hs5=>?_)
    refine xsta hB5 rfl rfl (by kernel_rfl) rfl (one_cells hone) (fun w6 hB6 hF6=>?_)
    have hE6:=hN hE5 hF6 (Nat.le_refl _)
    have hB6r:=hB4.ext hE6
    have k14 : w6.cell? ⟨g,14,none⟩ = some (.int .i64 pos):=hB6r.cell 14
    have q8 : w6.cell? ⟨g,10,none⟩ = some (.slice Ad nd.n.data.length cd):=by rw [← hvd];exact hB6r.cell 10
    have hE06:=hE04.t hE6
    have hdn : (nd.n.data ≠ []) ↔ 0 < nd.n.data.length:=List.length_pos_iff.symm
    rw [decide_eq_decide.2 hdn]
    dsimp only
    cases hok : nodeOK m with
    | false=>
     refine goL ?_
     exact tret1 rfl rfl ⟨rfl,hE06⟩
    | true=>
     by_cases hp : pos = 0
     ·rw [decide_eq_true hp]
      refine goL ?_
      exact tret1 rfl rfl ⟨rfl,hE06⟩
     ·rw [decide_eq_false hp]
      by_cases hl : 0 < nd.n.data.length
      ·rw [decide_eq_true hl]
       refine goL ?_
       exact tret1 rfl rfl ⟨rfl,hE06⟩
      ·rw [decide_eq_false hl]
       refine goL ?_
       exact tret1 rfl rfl ⟨rfl,hE06⟩
 ·have e0 : ∀ b : Bool,(mayP pth && decide (0 ≤ ld) && decide (ld < 100) && decide (0 ≤ pos) && decide (pos ≤ 400000) && b) = false:=fun b=>by
   cases hc : (mayP pth && decide (0 ≤ ld) && decide (ld < 100) && decide (0 ≤ pos) && decide (pos ≤ 400000)) with
   | false=>rfl
   | true=>
    simp only [Bool.and_eq_true,decide_eq_true_eq] at hc
    exact absurd ⟨hc.1.1.1.1,hc.1.1.1.2,hc.1.1.2,hc.1.2,hc.2⟩ hall
  rw [e0]
  cases h1 : mayP pth with
  | false=>
   exact y13
  | true=>
   by_cases h2 : 0 ≤ ld
   ·by_cases h3 : ld < 100
    ·by_cases h4 : 0 ≤ pos
     ·have h5 : ¬ pos ≤ 400000:=fun h5=>hall ⟨h1,h2,h3,h4,h5⟩
      exact y13
     ·exact y13
    ·exact y13
   ·exact y13
end
end Go.Proofs.YtbpmlbjapapoaaaGreatDoor.Eng
