/-
  Parts of the proof: Ah.
-/
import Derived.Test.YtbpmlbjapapoaaaGreatDoorRAc
import Derived.Test.YtbpmlbjapapoaaaGreatDoorRAg
import Derived.Test.YtbpmlbjapapoaaaGreatDoorRB0b
set_option maxRecDepth 100000
set_option maxHeartbeats 64000000
namespace Go.Proofs.YtbpmlbjapapoaaaGreatDoor.Eng
open Go.RowKit
section
def digF : Nat → Str → Option Nat
 | n,[]=>some n
 | n,c :: r=>if 48 ≤ c.toNat ∧ c.toNat ≤ 57 then digF (10 * n + (c.toNat - 48)) r else none
def lenS (s : Str) : Nat:=if 4 < s.length ∨ s.head? = some 48 then 0 else match digF 0 s with
 | some n=>if 4000 < n then 0 else n
 | none=>0
def fulP (c : UInt8) (p : Pce) : Pce:=⟨p.pos,List.replicate (lenS p.data) c⟩
def lensOK (l : List Pce) : Bool:=l.all fun p=>decide (lenS p.data ≠ 0)
def fullN (n : Nd) : Option Nd:=if n.kind ≠ 2 then some n else if 16 < n.data.length then none else if lensOK n.data then some { n with data:=n.data.map (fulP 120) } else none
def recOK (r : RcP) : Bool:=mayP r.path && decide (0 ≤ r.lead) && decide (r.lead < 100) && decide (0 ≤ r.pos) && decide (r.pos ≤ 400000) &&
 (if r.nd = ndZ then decide (r.pos = 0) else match fullN r.nd with
  | none=>false
  | some n=>nodeOK n && (decide (r.pos = 0) || (decide (r.nd.kind = 2) && decide (r.nd.data ≠ []))))
def filP (whole : Str) : Nat → List Pce → Option (List Pce)
 | _,[]=>some []
 | i,p :: r=>if i + lenS p.data ≤ whole.length then (filP whole (i + lenS p.data) r).map (⟨p.pos,(whole.drop i).take (lenS p.data)⟩ :: ·) else none
def gstp (whole : Str) (s : Option Tre) (r : RcP) : Option Tre:=match s with
 | none=>none
 | some t=>if recOK r && decide (r.lead ≤ (t.es.length : Int)) then
   (if r.lead < (t.es.length : Int) then some ⟨t.es ++ [⟨r.path,(t.es.getD r.lead.toNat default).node⟩],t.ns⟩
    else match filP whole r.pos.toNat r.nd.data with
    | none=>none
    | some d=>some ⟨t.es ++ [⟨r.path,(t.ns.length : Int)⟩],t.ns ++ [{ r.nd with data:=d }]⟩)
  else none
def guessM (recs : List RcP) (whole : Str) : Option Tre:=recs.foldl (gstp whole) (some ⟨[],[]⟩)
def treeM (recs : List RcP) (whole : Str) : Option Tre:=if recs.length < 1 ∨ 100 < recs.length then none else match guessM recs whole with
 | none=>none
 | some t=>if mayT t = true ∧ (recsM t).recs = recs ∧ (recsM t).whole = whole then some t else none
theorem digF_snoc : ∀ (s : Str) (n : Nat) (c : UInt8),digF n (s ++ [c]) = (digF n s).bind fun m=>digF m [c]
 | [],n,c=>rfl
 | x :: r,n,c=>by
  rw [List.cons_append]
  unfold digF
  split
  ·exact digF_snoc r _ c
  ·rfl
theorem digF_one (n k : Nat) (h : k < 10) : digF n [UInt8.ofNat (48 + k)] = some (10 * n + k):=by
 have e : (UInt8.ofNat (48 + k)).toNat = 48 + k:=by
  rw [UInt8.toNat_ofNat'];omega
 unfold digF
 rw [e,if_pos (by omega)]
 unfold digF
 congr 1;omega
theorem digF_dig (n : Nat) : digF 0 (Lib.decDigits n) = some n ∧ (1 ≤ n → (Lib.decDigits n).head? ≠ some 48) ∧ (∀ k,1 ≤ k → n < 10 ^ k → (Lib.decDigits n).length ≤ k):=by
 induction n using Nat.strongRecOn with
 | _ n ih=>
  by_cases h : n < 10
  ·rw [Lib.decDigits_one h]
   refine ⟨by rw [digF_one 0 n h];simp,fun h1 e=>?_,fun k hk _=>hk⟩
   have:=congrArg UInt8.toNat (Option.some.inj e)
   rw [UInt8.toNat_ofNat'] at this
   have e2 : (48 : UInt8).toNat = 48:=rfl
   omega
  ·rw [Lib.decDigits,dif_neg h]
   obtain ⟨i1,i2,i3⟩:=ih (n / 10) (by omega)
   refine ⟨?_,fun _=>?_,fun k hk hn=>?_⟩
   ·rw [digF_snoc,i1,Option.bind_some,digF_one _ _ (by omega)]
    congr 1;omega
   ·have:=i2 (by omega)
    cases hc : Lib.decDigits (n / 10) with
    | nil=>rw [hc] at i1;have:=Option.some.inj i1;omega
    | cons x r=>rw [hc] at this;exact this
   ·rw [List.length_append,List.length_singleton]
    rcases k with _ | _ | k
    ·omega
    ·simp at hn;omega
    ·have:=i3 (k + 1) (by omega) (by rw [Nat.div_lt_iff_lt_mul (by decide)];rw [Nat.pow_succ] at hn;exact hn)
     omega
theorem lenS_dec {n : Nat} (h1 : 1 ≤ n) (h : n ≤ 4000) : lenS (decS n) = n:=by
 obtain ⟨e1,e2,e3⟩:=digF_dig n
 have e : decS n = Lib.decDigits n:=by
  unfold decS Lib.itoa
  rw [if_neg (by omega),Int.toNat_natCast]
 unfold lenS
 rw [e,if_neg,e1]
 ·show (if 4000 < n then 0 else n) = n
  rw [if_neg (by omega)]
 ·rintro (hh | hh)
  ·have:=e3 4 (by decide) (by omega)
   omega
  ·exact e2 h1 hh
theorem lenS_le (s : Str) : lenS s ≤ 4000:=by
 unfold lenS
 split
 ·omega
 ·split
  ·split <;> omega
  ·omega
def shp (l : List Pce) : List (Int × Nat):=l.map fun p=>(p.pos,p.data.length)
theorem shp_ok : ∀ {a b : List Pce},shp a = shp b → a.length = b.length ∧ a.all pceOK = b.all pceOK ∧ bytesP a = bytesP b ∧ ∀ s l,extOK s l a = extOK s l b
 | [],[],_=>⟨rfl,rfl,rfl,fun _ _=>rfl⟩
 | [],_ :: _,h=>by cases h
 | _ :: _,[],h=>by cases h
 | p :: a,q :: b,h=>by
  obtain ⟨h1,h2⟩:=List.cons.inj h
  obtain ⟨e1,e2⟩:=Prod.mk.inj h1
  obtain ⟨i1,i2,i3,i4⟩:=shp_ok (a:=a) (b:=b) h2
  have ep : pceOK p = pceOK q:=by
   unfold pceOK
   have : (p.data ≠ []) ↔ (q.data ≠ []):=by
    rw [← List.length_pos_iff,← List.length_pos_iff,e2]
   rw [e1,decide_eq_decide.2 this]
  refine ⟨by rw [List.length_cons,List.length_cons,i1],by rw [List.all_cons,List.all_cons,ep,i2],by rw [bytesP,bytesP,e2,i3],fun s l=>?_⟩
  rw [extOK,extOK,e1,e2,i4]
theorem nodeOK_shp {n : Nd} {d : List Pce} (h : shp n.data = shp d) : nodeOK { n with data:=d } = nodeOK n:=by
 obtain ⟨i1,i2,i3,i4⟩:=shp_ok h
 have hnil : (d = []) ↔ (n.data = []):=by
  rw [← List.length_eq_zero_iff,← List.length_eq_zero_iff,i1]
 have hf : fileOK { n with data:=d } = fileOK n:=by
  unfold fileOK
  simp only [i1,i2,i3,i4]
 have hd : noData { n with data:=d } = noData n:=by
  unfold noData
  simp only [hnil]
 unfold nodeOK
 rw [hf,hd]
 rfl
theorem nodeOK_data {n : Nd} (h : nodeOK n = true) : n.data.length ≤ 16 ∧ bytesP n.data ≤ 4000 ∧ (∀ p ∈ n.data,p.data ≠ []) ∧ (n.kind = 2 ∨ n.data = []) ∧ n.kind ≠ 0 ∧ n.target.length ≤ 200:=by
 unfold nodeOK at h
 rw [Bool.and_eq_true] at h
 have h2:=h.2
 split at h2
 ·rename_i hk
  simp only [noData,noText,Bool.and_eq_true,decide_eq_true_eq] at h2
  rw [h2.1.1.2,h2.1.2]
  exact ⟨by simp,Nat.zero_le _,nofun,.inr rfl,by omega,by simp⟩
 ·split at h2
  ·rename_i hk
   simp only [fileOK,noText,Bool.and_eq_true,decide_eq_true_eq] at h2
   obtain ⟨⟨⟨⟨⟨⟨⟨_,_⟩,a1⟩,a2⟩,a3⟩,_⟩,a4⟩,_⟩:=h2
   rw [a4]
   refine ⟨a1,a3,fun p hp=>?_,.inl hk,by omega,by simp⟩
   have:=List.all_eq_true.1 a2 p hp
   simp only [pceOK,Bool.and_eq_true,decide_eq_true_eq] at this
   exact this.1.1
  ·split at h2
   ·rename_i hk
    simp only [noData,Bool.and_eq_true,decide_eq_true_eq] at h2
    rw [h2.1.1.1.1.2]
    exact ⟨by simp,Nat.zero_le _,nofun,.inr rfl,by omega,h2.1.2⟩
   ·split at h2
    ·rename_i hk
     simp only [noData,noText,Bool.and_eq_true,decide_eq_true_eq] at h2
     rw [h2.1.1.1.1.1.2,h2.1.1.1.1.2]
     exact ⟨by simp,Nat.zero_le _,nofun,.inr rfl,by omega,by simp⟩
    ·cases h2
theorem bytesP_mem : ∀ {l : List Pce} {p : Pce},p ∈ l → p.data.length ≤ bytesP l
 | q :: r,p,h=>by
  rw [bytesP]
  rcases List.mem_cons.1 h with rfl | h
  ·omega
  ·have:=bytesP_mem h;omega
theorem shp_bar {l : List Pce} (c : UInt8) (h : ∀ p ∈ l,1 ≤ p.data.length ∧ p.data.length ≤ 4000) : shp ((l.map barP).map (fulP c)) = shp l:=by
 unfold shp
 rw [List.map_map,List.map_map]
 apply List.map_congr_left
 intro p hp
 obtain ⟨h1,h2⟩:=h p hp
 show (p.pos,(List.replicate (lenS (decS p.data.length)) c).length) = _
 rw [List.length_replicate,lenS_dec h1 h2]
theorem pcs_len {n : Nd} (h : nodeOK n = true) : ∀ p ∈ n.data,1 ≤ p.data.length ∧ p.data.length ≤ 4000:=fun p hp=>by
 obtain ⟨_,h2,h3,_⟩:=nodeOK_data h
 have:=bytesP_mem hp
 exact ⟨List.length_pos_iff.2 (h3 p hp),by omega⟩
theorem lens_bar {l : List Pce} (h : ∀ p ∈ l,1 ≤ p.data.length ∧ p.data.length ≤ 4000) : lensOK (l.map barP) = true:=by
 unfold lensOK
 rw [List.all_eq_true]
 intro q hq
 obtain ⟨p,hp,rfl⟩:=List.mem_map.1 hq
 obtain ⟨h1,h2⟩:=h p hp
 show decide (lenS (decS p.data.length) ≠ 0) = true
 rw [lenS_dec h1 h2]
 exact decide_eq_true (by omega)
theorem recOK_bare {n : Nd} {p : Str} {j pos : Int} (hn : nodeOK n = true) (hp : mayP p = true) (h0 : 0 ≤ j) (h1 : j < 100) (hq0 : 0 ≤ pos) (hq1 : pos ≤ 400000) (hq : n.data = [] → pos = 0) : recOK ⟨p,j,bareN n,pos⟩ = true:=by
 obtain ⟨d1,d2,d3,d4,d5,d6⟩:=nodeOK_data hn
 have hb : bareN n = { n with data:=n.data.map barP }:=by unfold bareN;rw [if_pos hn]
 have hz : bareN n ≠ ndZ:=fun e=>d5 (by rw [hb] at e;exact congrArg Nd.kind e)
 have hp2:=pcs_len hn
 unfold recOK
 simp only [hp,decide_eq_true h0,decide_eq_true h1,decide_eq_true hq0,decide_eq_true hq1,Bool.true_and,if_neg hz]
 rcases d4 with hk | hk
 ·have e : fullN (bareN n) = some { n with data:=(n.data.map barP).map (fulP 120) }:=by
   rw [hb]
   unfold fullN
   rw [if_neg (fun hc=>hc hk),if_neg (by show ¬ 16 < (n.data.map barP).length;rw [List.length_map];omega),if_pos (lens_bar hp2)]
  rw [e]
  show (nodeOK { n with data:=(n.data.map barP).map (fulP 120) } && _) = true
  rw [nodeOK_shp (shp_bar 120 hp2).symm,hn,Bool.true_and,Bool.or_eq_true]
  by_cases hd : n.data = []
  ·exact .inl (decide_eq_true (hq hd))
  ·refine .inr ?_
   rw [hb]
   simp [hk,hd]
 ·have e : bareN n = n:=by
   rw [hb,hk]
   cases n;simp only at hk;subst hk;rfl
  rw [e]
  unfold fullN
  by_cases hk2 : n.kind = 2
  ·rw [if_neg (fun hc=>hc hk2),if_neg (by omega),if_pos (by unfold lensOK;rw [hk];rfl)]
   show (nodeOK { n with data:=n.data.map (fulP 120) } && _) = true
   rw [nodeOK_shp (by rw [hk];rfl),hn]
   simp [hq hk]
  ·rw [if_pos hk2]
   show (nodeOK n && _) = true
   rw [hn]
   simp [hq hk]
theorem recOK_zero {p : Str} {j : Int} (hp : mayP p = true) (h0 : 0 ≤ j) (h1 : j < 100) : recOK ⟨p,j,ndZ,0⟩ = true:=by
 unfold recOK
 simp [hp,h0,h1]
theorem filP_bar : ∀ (l : List Pce) (a b : Str),(∀ p ∈ l,1 ≤ p.data.length ∧ p.data.length ≤ 4000) → filP (a ++ catP l ++ b) a.length (l.map barP) = some l
 | [],_,_,_=>rfl
 | p :: r,a,b,h=>by
  obtain ⟨h1,h2⟩:=h p List.mem_cons_self
  have ec : catP (p :: r) = p.data ++ catP r:=rfl
  have el : lenS (barP p).data = p.data.length:=lenS_dec h1 h2
  rw [List.map_cons,filP,el,if_pos (by rw [ec];simp only [List.length_append];omega)]
  have i:=filP_bar r (a ++ p.data) b (fun q hq=>h q (List.mem_cons_of_mem _ hq))
  rw [List.length_append] at i
  rw [ec,← List.append_assoc a,i]
  show some (⟨p.pos,((a ++ p.data ++ catP r ++ b).drop a.length).take p.data.length⟩ :: r) = _
  rw [List.append_assoc,List.append_assoc,List.drop_left,List.take_left]
theorem whole_pre (ns : List Nd) : ∀ (es : List En) (s : RS),∃ b,(es.foldl (rstp ns) s).whole = s.whole ++ b
 | [],s=>⟨[],by simp⟩
 | e :: r,s=>by
  rw [List.foldl_cons]
  obtain ⟨b,hb⟩:=whole_pre ns r (rstp ns s e)
  rw [hb]
  unfold rstp
  split
  ·exact ⟨_,by rw [List.append_assoc]⟩
  ·exact ⟨_,rfl⟩
theorem ordB_may {ns : List Nd} {prev : Option Str} {u : Nat} {e : En} {r : List En} (h : ordB ns prev u (e :: r) = true) : mayP e.path = true:=by
 simp only [ordB,Bool.and_eq_true] at h
 exact h.1.1.1.1.1
theorem take_one {α : Type} {l : List α} {i : Nat} {x : α} (h : l[i]? = some x) : l.take (i + 1) = l.take i ++ [x]:=by
 rw [List.take_add_one,h];rfl
theorem guess_take {t : Tre} (h : mayT t = true) : ∀ i,i ≤ t.es.length → LdI t (rsts t.ns (t.es.take i)) i ∧ (rsts t.ns (t.es.take i)).seen ≤ i ∧ (rsts t.ns (t.es.take i)).whole.length ≤ 4000 * (rsts t.ns (t.es.take i)).seen ∧ (rsts t.ns (t.es.take i)).recs.foldl (gstp (recsM t).whole) (some ⟨[],[]⟩) = some ⟨t.es.take i,t.ns.take (rsts t.ns (t.es.take i)).seen⟩
 | 0,_=>by
  unfold mayT at h
  simp only [Bool.and_eq_true,decide_eq_true_eq] at h
  exact ⟨⟨⟨none,h.1.1.2⟩,by simp [rsts,rst0],rfl,fun j e hj=>absurd hj (by omega),fun k hk=>absurd hk (by simp [rsts,rst0])⟩,Nat.zero_le _,Nat.zero_le _,rfl⟩
 | i + 1,hi=>by
  have hlt : i < t.es.length:=hi
  obtain ⟨hl,hsn,hwl,hg⟩:=guess_take h i (by omega)
  obtain ⟨e,he⟩ : ∃ e,t.es[i]? = some e:=⟨_,List.getElem?_eq_getElem hlt⟩
  have hlen : t.es.length ≤ 100:=by
   unfold mayT at h
   simp only [Bool.and_eq_true,decide_eq_true_eq] at h
   exact h.1.1.1.2
  have hstep:=rsts_take (ns:=t.ns) he
  have hpre : ∃ b,(recsM t).whole = (rsts t.ns (t.es.take (i + 1))).whole ++ b:=by
   obtain ⟨b,hb⟩:=whole_pre t.ns (t.es.drop (i + 1)) (rsts t.ns (t.es.take (i + 1)))
   refine ⟨b,?_⟩
   rw [← hb]
   unfold recsM rsts
   rw [← List.foldl_append,List.take_append_drop]
  obtain ⟨s,hs⟩ : ∃ s,s = rsts t.ns (t.es.take i):=⟨_,rfl⟩
  rw [← hs] at hl hsn hwl hg hstep
  rw [hstep] at hpre ⊢
  obtain ⟨W,hW⟩ : ∃ W,W = (recsM t).whole:=⟨_,rfl⟩
  rw [← hW] at hpre hg ⊢
  obtain ⟨hl',j,hj,hF,hnew,hold⟩:=hl.step he
  have hmp : mayP e.path = true:=by
   obtain ⟨prev,ho⟩:=hl.ord
   have hdr : t.es.drop i = e :: t.es.drop (i + 1):=by
    rw [List.drop_eq_getElem_cons hlt];congr 1;exact (List.getElem?_eq_some_iff.1 he).2
   rw [hdr] at ho
   exact ordB_may ho
  have tl : (t.es.take i).length = i:=by rw [List.length_take];omega
  by_cases hc : e.node = (s.seen : Int)
  ·have hji : j = i:=Classical.byContradiction fun hne=>(hold hne).1 hc
   obtain ⟨_,hok,hsl⟩:=hnew hji
   obtain ⟨n,hn⟩ : ∃ n,t.ns[s.seen]? = some n:=⟨_,List.getElem?_eq_getElem hsl⟩
   have hgd : t.ns.getD s.seen default = n:=by rw [List.getD_eq_getElem?_getD,hn];rfl
   rw [hgd] at hok
   obtain ⟨d1,d2,d3,d4,d5,d6⟩:=nodeOK_data hok
   have e1 : rstp t.ns s e = ⟨s.recs ++ [⟨e.path,(s.recs.length : Int),bareN n,if n.data = [] then 0 else (s.whole.length : Int)⟩],s.whole ++ catP n.data,s.lead.set s.seen (s.recs.length : Int),s.seen + 1⟩:=by unfold rstp;rw [if_pos hc,hgd]
   rw [e1] at hl' hpre ⊢
   have hrl:=hl.rl
   refine ⟨hl',by show s.seen + 1 ≤ i + 1;omega,?_,?_⟩
   ·show (s.whole ++ catP n.data).length ≤ 4000 * (s.seen + 1)
    rw [List.length_append,catP_len];omega
   ·show (s.recs ++ [_]).foldl (gstp W) (some ⟨[],[]⟩) = some ⟨t.es.take (i + 1),t.ns.take (s.seen + 1)⟩
    rw [List.foldl_append,hg]
    have hr : recOK ⟨e.path,(s.recs.length : Int),bareN n,if n.data = [] then 0 else (s.whole.length : Int)⟩ = true:=recOK_bare hok hmp (by omega) (by omega) (by split <;> omega) (by split <;> omega) (fun hd=>by rw [if_pos hd])
    have hf : filP W (if n.data = [] then (0 : Int) else (s.whole.length : Int)).toNat (bareN n).data = some n.data:=by
     have hb : (bareN n).data = n.data.map barP:=by unfold bareN;rw [if_pos hok]
     rw [hb]
     by_cases hd : n.data = []
     ·rw [hd];rfl
     ·obtain ⟨b,hb⟩:=hpre
      rw [if_neg hd,hb,Int.toNat_natCast]
      exact filP_bar n.data s.whole b (pcs_len hok)
    have hbn : ({ bareN n with data:=n.data } : Nd) = n:=by unfold bareN;rw [if_pos hok]
    show gstp W (some ⟨t.es.take i,t.ns.take s.seen⟩) _ = _
    unfold gstp
    dsimp only
    have tn : (t.ns.take s.seen).length = s.seen:=by rw [List.length_take];omega
    rw [hr,tl,hrl,Bool.true_and,if_pos (decide_eq_true (Int.le_refl _)),if_neg (Int.lt_irrefl _),hf]
    dsimp only
    rw [hbn,take_one he,take_one hn,tn,← hc]
  ·have hne : j ≠ i:=fun hji=>hc (hnew hji).1
   obtain ⟨_,hjl⟩:=hold hne
   obtain ⟨⟨ej,hej,hejn⟩,_⟩:=hF
   have e1 : rstp t.ns s e = ⟨s.recs ++ [⟨e.path,s.lead.getD e.node.toNat 0,ndZ,0⟩],s.whole,s.lead,s.seen⟩:=by unfold rstp;rw [if_neg hc]
   rw [e1] at hl' ⊢
   rw [hjl] at hl' ⊢
   refine ⟨hl',by show s.seen ≤ i + 1;omega,hwl,?_⟩
   show (s.recs ++ [_]).foldl (gstp W) (some ⟨[],[]⟩) = some ⟨t.es.take (i + 1),t.ns.take s.seen⟩
   rw [List.foldl_append,hg]
   have hr : recOK ⟨e.path,(j : Int),ndZ,0⟩ = true:=recOK_zero hmp (by omega) (by omega)
   have hgd : (t.es.take i).getD j default = ej:=by
    rw [List.getD_eq_getElem?_getD,List.getElem?_take_of_lt (by omega),hej];rfl
   show gstp W (some ⟨t.es.take i,t.ns.take s.seen⟩) _ = _
   unfold gstp
   dsimp only
   rw [hr,tl,Bool.true_and,if_pos (decide_eq_true (by omega)),if_pos (by omega),Int.toNat_natCast,hgd,hejn,take_one he]
end
end Go.Proofs.YtbpmlbjapapoaaaGreatDoor.Eng
