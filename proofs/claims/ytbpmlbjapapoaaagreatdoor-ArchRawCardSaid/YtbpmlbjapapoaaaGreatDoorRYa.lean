/-
  Parts of the proof: Ya.
-/
import Derived.Test.YtbpmlbjapapoaaaGreatDoorRB0b
import Derived.Test.YtbpmlbjapapoaaaGreatDoorRB4
import Derived.Test.YtbpmlbjapapoaaaGreatDoorRWd
import Derived.Test.YtbpmlbjapapoaaaGreatDoorRWm
set_option maxRecDepth 100000
set_option maxHeartbeats 64000000
namespace Go.Proofs.YtbpmlbjapapoaaaGreatDoor.Eng
open Go.RowKit
section
attribute [local irreducible] xs T
theorem Fr.ed {a b : World} (h : Fr noneB a b) : Ext a b.drew:=h.d
def digs : Str:=[48,49,50,51,52,53,54,55,56,57]
theorem digs_cut : ∀ l : Nat,l < 10 → (digs.drop l).take (l + 1 - l) = [dg l]:=by decide
section
variable {hs : List Nat} {H : World → Prop} {full : Array Oper} {K : Env → World → Prop} {rest : List Oper} {env : Env} {w : World} {d : Tmp} {ty : TypeId} {pos : String} {af : Array Edge}
theorem xdg {t : TypeId} {x lo hi : Operand} {k k' : IntKind} {jl jh : Int} (l : Nat) (ht : isS t = true) (hx : evo env x = some (.string (su digs))) (hlo : evo env lo = some (.int k jl)) (hhi : evo env hi = some (.int k' jh)) (el : jl = l) (eh : jh = (l : Int) + 1) (hl : l < 10)
  (hc : xs Tryz.prog isI isS hs H full K rest ((d,.string (su [dg l])) :: env) w) :
  xs Tryz.prog isI isS hs H full K (⟨some d,.slice t x (some lo) (some hi) none,ty,pos,af,none⟩ :: rest) env w:=by
 refine xusl2 l (l + 1) ht hx hlo hhi el (by omega) (by omega) (by show l + 1 ≤ 10;omega) ?_
 rw [digs_cut l hl]
 exact hc
end
theorem rdec_does (w : World) (n : Nat) (hn : n ≤ 9223372036854775807) : Does Tryz.prog 30 #[.int .i64 (n : Int)] w fun r w'=>r = .string (su (decU n)) ∧ w = w':=by
 have hn0 : n < 10 ^ 21:=Nat.lt_of_le_of_lt hn (by decide)
 refine does1 Tryz.func30 rfl (by kernel_rfl) ?_
 refine goL ?_
 refine tloop (α:=Nat × Nat × Str) (fun x=>[(0,.int .i64 (x.2.1 : Int)),(3,.string (su x.2.2))]) (fun x w'=>w = w' ∧ decF x.1 x.2.1 x.2.2 = decU n ∧ x.2.1 < 10 ^ (x.1 + 1) ∧ x.2.1 ≤ n ∧ x.2.2.length + x.1 ≤ 20) (fun x=>x.2.1) (20,n,[]) (sub ⟨rfl,rfl⟩) ⟨rfl,rfl,hn0,Nat.le_refl _,Nat.le_refl _⟩ ?_
 rintro ⟨k,m,s⟩ w1 ⟨rfl,hgo,hm,hmn,hs⟩
 dsimp only at hgo hm hmn hs ⊢
 by_cases h9 : 9 < m
 ·cases k with
  | zero=>omega
  | succ k=>
   rw [decF,if_pos h9] at hgo
   have h10 : m % 10 < 10:=Nat.mod_lt _ (by decide)
   repeat' (first | refine xrem rfl rfl (by omega) (by omega) (by omega) ?_ | refine xquo rfl rfl (by omega) (by omega) (by omega) ?_ | refine xdg (m % 10) rfl rfl rfl rfl (by omega) (by omega) h10 ?_ | refine xuadd (a:=[dg (m % 10)]) (b:=s) rfl rfl (by simp only [List.length_cons,List.length_nil];omega) ?_ | refine go1L ?_ | fail)
   exact tfin ⟨(k,m / 10,dg (m % 10) :: s),sub ⟨ieq (by dsimp only;omega),rfl⟩,⟨rfl,hgo,(by dsimp only;rw [Nat.pow_succ] at hm;omega),(by dsimp only;omega),(by dsimp only [List.length_cons];omega)⟩,(by show m / 10 < m;omega)⟩
 ·have hr : decU n = dg m :: s:=by
   rw [← hgo]
   cases k with
   | zero=>rfl
   | succ k=>rw [decF,if_neg h9]
  rw [hr]
  repeat' (first | refine xdg m rfl rfl rfl rfl rfl rfl (by omega) ?_ | refine xuadd (a:=[dg m]) (b:=s) rfl rfl (by simp only [List.length_cons,List.length_nil];omega) ?_ | refine go1L ?_ | fail)
  exact y4
def joinR (a b : Str) : Str × Int:=if mayP a && nameU b then (if mayP (joinB a b) then (joinB a b,0) else ([],2)) else ([],1)
theorem joinR_some {a b s : Str} (h : joinP a b = some s) : joinR a b = (s,0):=by
 unfold joinP at h
 unfold joinR
 split at h
 ·rename_i h1
  rw [if_pos h1]
  split at h
  ·rename_i h2
   rw [if_pos h2,Option.some.inj h]
  ·cases h
 ·cases h
theorem joinR_none {a b : Str} (h : joinP a b = none) : (joinR a b).1 = [] ∧ (joinR a b).2 ≠ 0:=by
 unfold joinP at h
 unfold joinR
 split at h
 ·rename_i h1
  rw [if_pos h1]
  split at h
  ·cases h
  ·rename_i h2
   rw [if_neg h2]
   exact ⟨rfl,by decide⟩
 ·rename_i h1
  rw [if_neg h1]
  exact ⟨rfl,by decide⟩
theorem rjoin_does (w : World) (a b : Str) (ha : a.length ≤ 400000) (hb : b.length ≤ 400000) : Does Tryz.prog 28 #[.string (su a),.string (su b)] w fun r w'=>r = .tuple #[.string (su (joinR a b).1),.int .i64 (joinR a b).2] ∧ Ext w w':=by
 refine does2 Tryz.func28 rfl (by kernel_rfl) ?_
 refine goL ?_
 refine xcallE rfl rfl (rmay_does w a (by omega)) (fun r w1 h1=>?_)
 obtain ⟨rfl,hE1⟩:=h1
 unfold joinR
 cases hma : mayP a with
 | false=>
  refine goL ?_
  exact tret2 rfl rfl rfl ⟨rfl,hE1⟩
 | true=>
  refine goL ?_
  refine xcallE rfl rfl (rname_does w1 b (by omega)) (fun r w2 h2=>?_)
  obtain ⟨rfl,rfl⟩:=h2
  cases hnb : nameU b with
  | false=>
   refine goL ?_
   exact tret2 rfl rfl rfl ⟨rfl,hE1⟩
  | true=>
   by_cases h0 : a = []
   ·have hs : joinB a b = b:=by unfold joinB;rw [if_pos h0]
    rw [hs]
    repeat' (first | refine xucmp (op:=.neq) (b:=[]) (r:=false) rfl rfl (by simp [cmpU,h0]) ?_ | refine go1L ?_ | fail)
    refine xcallE rfl rfl (rmay_does w1 b (by omega)) (fun r w2 h2=>?_)
    obtain ⟨rfl,hE2⟩:=h2
    cases hm : mayP b with
    | false=>
     exact y41
    | true=>
     exact y41
   ·have hs : joinB a b = (a ++ [47]) ++ b:=by unfold joinB;rw [if_neg h0];simp
    rw [hs]
    repeat' (first | refine xucmp (op:=.neq) (b:=[]) (r:=true) rfl rfl (by simp [cmpU,h0]) ?_ | refine xuadd (a:=a) (b:=[47]) rfl rfl (by simp only [List.length_cons,List.length_nil];omega) ?_ | refine xuadd (a:=a ++ [47]) (b:=b) rfl rfl (by rw [List.length_append];simp only [List.length_cons,List.length_nil];omega) ?_ | refine go1L ?_ | fail)
    refine xcallE rfl rfl (rmay_does w1 ((a ++ [47]) ++ b) (by rw [List.length_append,List.length_append];simp only [List.length_cons,List.length_nil];omega)) (fun r w2 h2=>?_)
    obtain ⟨rfl,hE2⟩:=h2
    cases hm : mayP ((a ++ [47]) ++ b) with
    | false=>
     exact y41
    | true=>
     exact y41
end
section
section
variable {hs : List Nat} {H : World → Prop} {full : Array Oper} {K : Env → World → Prop} {rest : List Oper} {env : Env} {w : World} {d : Tmp} {ty : TypeId} {pos : String} {af : Array Edge}
theorem xstz {z B : Nat} {t e : TypeId} {x y : Operand} {g n c q : Nat} {vs : List Value} {u : Value} (hO : OwnZ w B e z (.slice (some ⟨g,0,none⟩) n c) n vs) (hx : evo env x = some (.pointer (some ⟨g,q,none⟩))) (hy : evo env y = some u) (ht : one t = true) (hu : u.oneCell' = true) (hq : q < vs.length)
  (h : ∀ w',OwnZ w' B e z (.slice (some ⟨g,0,none⟩) n c) n (vs.set q u) → Fr (· = g) w w' → xs Tryz.prog isI isS hs H full K rest env w') (hH : ∀ w',Fr (· = g) w w' → H w':=by intros;trivial) : xs Tryz.prog isI isS hs H full K (⟨none,.store t x y,ty,pos,af,none⟩ :: rest) env w:=by
 obtain ⟨h1,h2⟩:=hO
 rcases h2 with ⟨e1,_⟩ | ⟨g',cap,cur,e1,hg,hh,h3,h4,h5,h6⟩
 ·cases e1
 injection e1 with e1 e2 e3
 injection e1 with e1
 injection e1 with e1
 subst e1;subst e3
 have hcs : vs.length ≤ cur.size:=by rw [← h6,List.length_take];simp only [Array.length_toList];omega
 refine xstb hh hx hy ht hu (decide_eq_true (by omega)) (fun w' hB' hF=>h w' ⟨by rw [List.length_set];exact h1,.inr ⟨g,c,cur.setIfInBounds q u,rfl,hg,hB',h3,h4,?_,?_⟩⟩ hF) hH
 ·rw [Array.size_setIfInBounds];exact h5
 ·rw [Array.toList_setIfInBounds,List.take_set,h6]
end
theorem Ow.typ {α : Type} {cf : α → List Value} {z B : Nat} {w : World} {e : TypeId} {v : Value} {l : List α} (h : Ow cf z w B e v l) {b : Nat} (hb : v.ownBlock = some b) : ∃ cur,Blk w b e cur:=by
 obtain ⟨_,h2⟩:=h
 rcases h2 with ⟨rfl,_⟩ | ⟨g,cap,cur,rfl,_,hh,_⟩
 ·cases hb
 ·have : g = b:=by simpa [Value.ownBlock] using hb
  subst this
  exact ⟨cur,hh⟩
theorem Ow.apart {α β : Type} {cf : α → List Value} {cf' : β → List Value} {z z' B B' : Nat} {w : World} {e e' : TypeId} {v v' : Value} {l : List α} {l' : List β} (h : Ow cf z w B e v l) (h' : Ow cf' z' w B' e' v' l') (hne : e ≠ e') {b : Nat} (hb : v.ownBlock = some b) : ¬ v'.ownBlock = some b:=fun hb'=>by
 obtain ⟨c,h1⟩:=h.typ hb
 obtain ⟨c',h2⟩:=h'.typ hb'
 exact h1.ne_ h2 hne rfl
theorem pcC_flat1 : ∀ (l : List Pce) (i : Nat) (p : Pce) (s : Str),l[i]? = some p → (l.flatMap pcC).set (i * 2 + 1) (.string (su s)) = (l.set i ⟨p.pos,s⟩).flatMap pcC
 | [],i,p,s,h=>by simp at h
 | x :: l,0,p,s,h=>by
  simp only [List.getElem?_cons_zero,Option.some.injEq] at h
  subst h
  rfl
 | x :: l,i + 1,p,s,h=>by
  have ih:=pcC_flat1 l i p s (by simpa using h)
  rw [show (i + 1) * 2 + 1 = i * 2 + 1 + 2 from by omega]
  have e2 : ((x :: l).flatMap pcC).set (i * 2 + 1 + 2) (.string (su s)) = .int .i64 x.pos :: .string (su x.data) :: ((l.flatMap pcC).set (i * 2 + 1) (.string (su s))):=rfl
  rw [e2,ih]
  rfl
attribute [local irreducible] xs T
structure ClI (l : List Pce) (lo hi : Int) (w0 : World) (x : Nat × Value) (w : World) : Prop where
 i : x.1 ≤ l.length
 own : Ow pcC 2 w w0.heap.size 65 x.2 (clipP (l.take x.1) lo hi)
 ext : Ext w0 w
def PcOK (l : List Pce) : Prop:=l.length ≤ 1000000 ∧ ∀ p ∈ l,0 ≤ p.pos ∧ p.pos ≤ 4398046511104 ∧ p.data.length ≤ 10000000
theorem clip_take {l : List Pce} {i : Nat} {p : Pce} (lo hi : Int) (h : l[i]? = some p) : clipP (l.take (i + 1)) lo hi = clipP (l.take i) lo hi ++ (clip1 lo hi p).toList:=by
 unfold clipP
 rw [List.take_add_one,h,List.filterMap_append]
 cases hc : clip1 lo hi p <;> simp [hc]
theorem rclip_does (w : World) (v : Value) (l : List Pce) (lo hi : Int) (hv : Rw pcC w v l) (hl : PcOK l) (hlo : 0 ≤ lo ∧ lo ≤ 4398046511104 ∧ 0 ≤ hi ∧ hi ≤ 4398046511104) : Does Tryz.prog 58 #[v,.int .i64 lo,.int .i64 hi] w fun r w'=>Ow pcC 2 w' w.heap.size 65 r (clipP l lo hi) ∧ Ext w w':=by
 refine does3 Tryz.func58 rfl (by kernel_rfl) ?_
 obtain ⟨A,c,rfl,hc1,hc2,hA⟩:=hv.op pcC_len
 obtain ⟨hll,hlp⟩:=hl
 refine goL ?_
 refine tloop (α:=Nat × Value) (fun x=>[(0,.slice A l.length c),(1,.int .i64 lo),(2,.int .i64 hi),(7,x.2),(8,.int .i64 (x.1 : Int))]) (ClI l lo hi w) (fun x=>l.length - x.1) (0,.slice none 0 0) (sub ⟨rfl,rfl,rfl,rfl,rfl⟩) ⟨Nat.zero_le _,Ow.nil _ _ _,Fr.refl _ _⟩ ?_
 rintro ⟨i,v⟩ w1 ⟨hi',hown,hE⟩
 dsimp only at hi' hown hE ⊢
 by_cases hlt : i < l.length
 ·obtain ⟨b,o,p,rfl,_,hp,_,hcell⟩:=hA.at_ hlt
  obtain ⟨p0,p1,p2⟩:=hlp p (List.mem_of_getElem? hp)
  have c0 : w1.drew.cell? ⟨b,o + i * 2 + 0,none⟩ = some (.int .i64 p.pos):=hE.ed.cell (hcell 0 _ rfl)
  have c1 : w1.drew.cell? ⟨b,o + i * 2 + 1,none⟩ = some (.string (su p.data)):=hE.ed.cell (hcell 1 _ rfl)
  have d0 : w1.drew.drew.cell? ⟨b,o + i * 2 + 0,none⟩ = some (.int .i64 p.pos):=c0
  have d1 : w1.drew.drew.cell? ⟨b,o + i * 2 + 1,none⟩ = some (.string (su p.data)):=c1
  have hst:=clip_take lo hi hp
  by_cases hcl : max lo p.pos < min hi (endP p)
  ·have hone : clip1 lo hi p = some ⟨max lo p.pos,(p.data.drop (max lo p.pos - p.pos).toNat).take (min hi (endP p) - max lo p.pos).toNat⟩:=if_pos hcl
   rw [hone,Option.toList_some] at hst
   have hcl' : max lo p.pos < min hi (p.pos + (p.data.length : Int)):=hcl
   repeat' (first | refine xizq i (o + i * 2) rfl rfl rfl rfl rfl hlt ?_ | refine xuln rfl rfl ?_ | refine go1LM ?_ | fail)
   refine xusl2 (max lo p.pos - p.pos).toNat (min hi (p.pos + (p.data.length : Int)) - p.pos).toNat rfl rfl rfl rfl (by omega) (by omega) (by omega) (by omega) ?_
   rw [show (min hi (p.pos + (p.data.length : Int)) - p.pos).toNat - (max lo p.pos - p.pos).toNat = (min hi (p.pos + (p.data.length : Int)) - max lo p.pos).toNat from by omega]
   obtain ⟨q,hq⟩ : ∃ q : Pce,q = ⟨max lo p.pos,(p.data.drop (max lo p.pos - p.pos).toNat).take (min hi (p.pos + (p.data.length : Int)) - max lo p.pos).toNat⟩:=⟨_,rfl⟩
   refine xbd (parts:=[(0,.tmp 42),(1,.tmp 62)]) (cells:=(pcC q).toArray) (vs:=[(0,.int .i64 q.pos),(1,.string (su q.data))]) (by rw [hq];rfl) (by kernel_rfl) ?_
   refine xbz1 sl_pcs rfl rfl (by decide) (by decide) (fun w2 hB2 hE2 hs2=>?_)
   have hE12 : Ext w1 w2:=((Fr.drew _ _).t (Fr.drew _ _)).t hE2
   have hll2:=clip_len (l.take i) lo hi
   rw [List.length_take] at hll2
   have hsz:=hE.size
   have hsz2:=hE12.size
   refine xapz (B:=w.heap.size) (news:=pcC q) sl_pcs rfl (by decide) rfl (hown.ext hE12) rfl (blk_row hB2 (by decide) rfl) rfl (fun u hu=>pcC_one [_] u (by simpa using hu)) (by unfold maxLen;omega) (by omega) (by omega) (fun v3 w3 hO3 hF3 _=>?_)
   have hO3' : Ow pcC 2 w3 w.heap.size 65 v3 (clipP (l.take i) lo hi ++ [q]):=Ow.ext1 (l':=[q]) (by simpa using hO3)
   refine goL ?_
   exact tfin ⟨(i + 1,v3),sub ⟨rfl,rfl,rfl,rfl,rfl⟩,⟨hlt,by dsimp only;rw [hst];subst hq;exact hO3',(hE.t hE12).trans hF3 fun j hj h=>by have:=(hown.blk h).1;omega⟩,(by show l.length - (i + 1) < l.length - i;omega)⟩
  ·have hnone : clip1 lo hi p = none:=if_neg hcl
   rw [hnone,Option.toList_none,List.append_nil] at hst
   have hcl' : ¬ max lo p.pos < min hi (p.pos + (p.data.length : Int)):=hcl
   repeat' (first | refine xizq i (o + i * 2) rfl rfl rfl rfl rfl hlt ?_ | refine xuln rfl rfl ?_ | refine go1LM ?_ | fail)
   exact tfin ⟨(i + 1,v),sub ⟨rfl,rfl,rfl,rfl,rfl⟩,⟨hlt,by dsimp only;rw [hst];exact hown.ext (Fr.drew _ _),hE.d⟩,(by show l.length - (i + 1) < l.length - i;omega)⟩
 ·obtain rfl : i = l.length:=by omega
  rw [List.take_length] at hown
  refine goL ?_
  exact tret1 rfl rfl ⟨hown,hE⟩
def joinH (O r : List Pce) : List Pce:=match O.getLast? with
 | none=>joinedP r
 | some c=>O.dropLast ++ joinG c r
theorem joinH_nil (r : List Pce) : joinH [] r = joinedP r:=rfl
theorem joinH_snoc (O : List Pce) (c : Pce) (r : List Pce) : joinH (O ++ [c]) r = O ++ joinG c r:=by
 unfold joinH
 rw [List.getLast?_concat,List.dropLast_concat]
structure JnI (l : List Pce) (w0 : World) (x : Nat × Value × List Pce) (w : World) : Prop where
 i : x.1 ≤ l.length
 own : Ow pcC 2 w w0.heap.size 65 x.2.1 x.2.2
 go : joinH x.2.2 (l.drop x.1) = joinedP l
 len : x.2.2.length ≤ x.1
 pos : ∀ p ∈ x.2.2,0 ≤ p.pos ∧ p.pos ≤ 4398046511104
 by_ : bytesP x.2.2 ≤ bytesP (l.take x.1)
 ext : Ext w0 w
theorem bytesP_takele (l : List Pce) (i : Nat) : bytesP (l.take i) ≤ bytesP l:=by
 conv=>rhs;rw [← List.take_append_drop i l,bytesP_app]
 omega
theorem rjoined_does (w : World) (v : Value) (l : List Pce) (hv : Rw pcC w v l) (hl : PcOK l) (hb : bytesP l ≤ 1000000000) : Does Tryz.prog 59 #[v] w fun r w'=>Ow pcC 2 w' w.heap.size 65 r (joinedP l) ∧ Ext w w':=by
 refine does1 Tryz.func59 rfl (by kernel_rfl) ?_
 obtain ⟨A,c,rfl,hc1,hc2,hA⟩:=hv.op pcC_len
 obtain ⟨hll,hlp⟩:=hl
 refine goL ?_
 refine tloop (α:=Nat × Value × List Pce) (fun x=>[(0,.slice A l.length c),(3,x.2.1),(4,.int .i64 (x.1 : Int))]) (JnI l w) (fun x=>l.length - x.1) (0,.slice none 0 0,[]) (sub ⟨rfl,rfl,rfl⟩) ⟨Nat.zero_le _,Ow.nil _ _ _,joinH_nil _,Nat.zero_le _,(fun p hp=>by cases hp),Nat.zero_le _,Fr.refl _ _⟩ ?_
 rintro ⟨i,v,O⟩ w1 ⟨hi,hown,hgo,hlen,hpos,hby,hE⟩
 dsimp only at hi hown hgo hlen hpos hby hE ⊢
 obtain ⟨A1,c1,rfl,hc11,hc12⟩:=hown.form
 by_cases hlt : i < l.length
 ·obtain ⟨b,o,p,rfl,_,hp,hdr,hcell⟩:=hA.at_ hlt
  obtain ⟨p0,p1,p2⟩:=hlp p (List.mem_of_getElem? hp)
  have e0 : w1.drew.cell? ⟨b,o + i * 2 + 0,none⟩ = some (.int .i64 p.pos):=hE.ed.cell (hcell 0 _ rfl)
  have e1 : w1.drew.drew.cell? ⟨b,o + i * 2 + 1,none⟩ = some (.string (su p.data)):=hE.ed.ed.cell (hcell 1 _ rfl)
  have hpc : ∀ j u,(pcC p)[j]? = some u → w1.drew.cell? ⟨b,o + i * 2 + j,none⟩ = some u:=fun j u hu=>hE.ed.cell (hcell j u hu)
  have hbt:=bytesP_take hp
  have hbl:=bytesP_takele l (i + 1)
  rw [hdr] at hgo
  have ha0 : ∀ O2 : List Pce,(O2 = O ∨ ∃ O' q,O = O' ++ [q] ∧ O2 = O' ++ [q]) → bytesP (O ++ [p]) ≤ bytesP (l.take (i + 1)):=fun _ _=>by
   rw [bytesP_app,hbt];simp only [bytesP];omega
  have hposn : ∀ x ∈ O ++ [p],0 ≤ x.pos ∧ x.pos ≤ 4398046511104:=fun x hx=>by
   rcases List.mem_append.1 hx with hx | hx
   ·exact hpos x hx
   ·rw [List.mem_singleton.1 hx];exact ⟨p0,p1⟩
  have hsz:=hE.size
  rcases List.eq_nil_or_concat O with hO | ⟨O',q,hO⟩
  ·subst hO
   have hn0 : ([] : List Pce).length = 0:=rfl
   have hgo1 : joinH [p] (l.drop (i + 1)) = joinedP l:=by
    rw [← hgo]
    exact joinH_snoc [] p _
   refine gz4 ?_
   refine xldz (cs:=pcC p) rfl rfl hpc ?_
   refine goL ?_
   refine xbz1 sl_pcs rfl rfl (by decide) (by decide) (fun w2 hB2 hE2 hs2=>?_)
   have hE12 : Ext w1 w2:=(Fr.drew _ _).t hE2
   have hsz2:=hE12.size
   refine goL ?_
   refine xapz (B:=w.heap.size) (news:=pcC p) sl_pcs rfl (by decide) rfl (hown.ext hE12) rfl (blk_row hB2 (by decide) rfl) rfl (fun u hu=>pcC_one [_] u (by simpa using hu)) (by decide) (by decide) (by omega) (fun v3 w3 hO3 hF3 _=>?_)
   have hO3' : Ow pcC 2 w3 w.heap.size 65 v3 ([] ++ [p]):=Ow.ext1 (l':=[p]) (by simpa using hO3)
   refine goL ?_
   exact tfin ⟨(i + 1,v3,[p]),sub ⟨rfl,rfl,rfl⟩,⟨hlt,hO3',hgo1,by dsimp only [List.length_cons,List.length_nil];omega,hposn,ha0 [] (.inl rfl),(hE.t hE12).trans hF3 fun j hj h=>by have:=(hown.blk h).1;omega⟩,(by show l.length - (i + 1) < l.length - i;omega)⟩
  ·rw [List.concat_eq_append] at hO
   subst hO
   obtain ⟨q0,q1⟩:=hpos q (by simp)
   have hOl : (O' ++ [q]).length = O'.length + 1:=by simp
   have hqb : bytesP O' + q.data.length ≤ bytesP (l.take i):=by
    rw [bytesP_app] at hby;simp only [bytesP] at hby;omega
   rw [joinH_snoc,joinG] at hgo
   have hget : (O' ++ [q])[O'.length]? = some q:=by simp
   obtain ⟨gO,cO,eO,hgO,hgO2,_,_,hcO⟩:=OwnZ.go hown (by rw [hOl];omega)
   injection eO with e1' e2' e3'
   subst e1';subst e3'
   have r0 : w1.drew.cell? ⟨gO,O'.length * 2 + 0,none⟩ = some (.int .i64 q.pos):=hcO _ _ (flat_get pcC_len hget (j:=0) rfl)
   have r1 : w1.drew.cell? ⟨gO,O'.length * 2 + 1,none⟩ = some (.string (su q.data)):=hcO _ _ (flat_get pcC_len hget (j:=1) rfl)
   have r2 : w1.drew.drew.cell? ⟨gO,O'.length * 2 + 1,none⟩ = some (.string (su q.data)):=r1
   by_cases he : endP q = p.pos
   ·rw [if_pos he] at hgo
    have he' : q.pos + (q.data.length : Int) = p.pos:=he
    repeat' (first | refine xizq i (o + i * 2) rfl rfl rfl rfl rfl hlt ?_ | refine xizq O'.length (O'.length * 2) rfl rfl rfl (by rw [hOl];omega) (by omega) (by rw [hOl];omega) ?_ | refine xuln rfl rfl ?_ | refine xuadd (a:=q.data) (b:=p.data) rfl rfl (by omega) ?_ | refine go1L ?_ | fail)
    refine xstz (OwnZ.ext hown (Fr.ed (Fr.ed (Fr.refl _ _)))) rfl rfl (by kernel_rfl) rfl (by rw [flat_len pcC_len,hOl];omega) (fun w2 hO2 hF2=>?_)
    rw [pcC_flat1 _ _ _ _ hget] at hO2
    obtain ⟨m,hm⟩ : ∃ m : Pce,m = ⟨q.pos,q.data ++ p.data⟩:=⟨_,rfl⟩
    rw [← hm] at hO2 hgo
    have hset : (O' ++ [q]).set O'.length m = O' ++ [m]:=by simp
    rw [hset] at hO2
    have e2 : (O' ++ [m]).length = (O' ++ [q]).length:=by simp
    have hO2' : Ow pcC 2 w2 w.heap.size 65 (.slice (some ⟨gO,0,none⟩) (O' ++ [q]).length c1) (O' ++ [m]):=by
     unfold Ow
     rw [e2]
     exact hO2
    refine goL ?_
    refine tfin ⟨(i + 1,.slice (some ⟨gO,0,none⟩) (O' ++ [q]).length c1,O' ++ [m]),sub ⟨rfl,rfl,rfl⟩,⟨hlt,hO2',?_,?_,fun x hx=>?_,?_,?_⟩,(by show l.length - (i + 1) < l.length - i;omega)⟩
    ·rw [joinH_snoc];exact hgo
    ·dsimp only;rw [List.length_append] at hlen ⊢;simp only [List.length_cons,List.length_nil] at hlen ⊢;omega
    ·rcases List.mem_append.1 hx with hx | hx
     ·exact hpos x (by simp [hx])
     ·rw [List.mem_singleton.1 hx,hm];exact ⟨q0,q1⟩
    ·dsimp only;rw [bytesP_app,hbt,hm];simp only [bytesP,List.length_append];omega
    ·exact (hE.ed.ed).trans hF2 fun j hj h=>by have h : j = gO:=h;omega
   ·rw [if_neg he] at hgo
    have he' : ¬ q.pos + (q.data.length : Int) = p.pos:=he
    repeat' (first | refine xizq i (o + i * 2) rfl rfl rfl rfl rfl hlt ?_ | refine xizq O'.length (O'.length * 2) rfl rfl rfl (by rw [hOl];omega) (by omega) (by rw [hOl];omega) ?_ | refine xuln rfl rfl ?_ | refine go1L ?_ | fail)
    refine xldz (cs:=pcC p) rfl rfl hpc ?_
    refine goL ?_
    refine xbz1 sl_pcs rfl rfl (by decide) (by decide) (fun w2 hB2 hE2 hs2=>?_)
    have hE12 : Ext w1 w2:=(Fr.drew _ _).t hE2
    have hsz2:=hE12.size
    refine goL ?_
    refine xapz (B:=w.heap.size) (news:=pcC p) sl_pcs rfl (by decide) rfl (hown.ext hE12) rfl (blk_row hB2 (by decide) rfl) rfl (fun u hu=>pcC_one [_] u (by simpa using hu)) (by unfold maxLen;omega) (by omega) (by omega) (fun v3 w3 hO3 hF3 _=>?_)
    have hO3' : Ow pcC 2 w3 w.heap.size 65 v3 ((O' ++ [q]) ++ [p]):=Ow.ext1 (l':=[p]) (by simpa using hO3)
    refine goL ?_
    refine tfin ⟨(i + 1,v3,(O' ++ [q]) ++ [p]),sub ⟨rfl,rfl,rfl⟩,⟨hlt,hO3',?_,?_,hposn,ha0 _ (.inl rfl),(hE.t hE12).trans hF3 fun j hj h=>by have:=(hown.blk h).1;omega⟩,(by show l.length - (i + 1) < l.length - i;omega)⟩
    ·rw [joinH_snoc,← hgo];simp
    ·dsimp only;rw [List.length_append];simp only [List.length_cons,List.length_nil];omega
 ·obtain rfl : i = l.length:=by omega
  rw [List.drop_length] at hgo
  have hfin : joinedP l = O:=by
   rw [← hgo]
   unfold joinH
   cases hg : O.getLast? with
   | none=>rw [List.getLast?_eq_none_iff.1 hg];rfl
   | some q=>
    obtain ⟨r,hr⟩:=List.getLast?_eq_some_iff.1 hg
    rw [hr,List.dropLast_concat];rfl
  rw [hfin]
  refine goL ?_
  exact tret1 rfl rfl ⟨hown,hE⟩
end
end Go.Proofs.YtbpmlbjapapoaaaGreatDoor.Eng
