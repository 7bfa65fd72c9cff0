/-
  Parts of the proof: Wb.
-/
import Derived.Lib.Bytealg
import Derived.Test.YtbpmlbjapapoaaaGreatDoorRB0b
import Derived.Test.YtbpmlbjapapoaaaGreatDoorRWa
set_option maxRecDepth 100000
set_option maxHeartbeats 64000000
namespace Go.Proofs.YtbpmlbjapapoaaaGreatDoor.Eng
open Go.RowKit
section
attribute [local irreducible] xs T
def lix (l : Str) (c : UInt8) : Nat → Int
 | 0=>-1
 | k + 1=>if l[k]? = some c then k else lix l c k
theorem lix_none {l : Str} {c : UInt8} (h : c ∉ l) : ∀ k,lix l c k = -1
 | 0=>rfl
 | k + 1=>by
  rw [lix,if_neg (fun e=>h (List.mem_of_getElem? e)),lix_none h k]
theorem lix_mid {a x : Str} {c : UInt8} (h : c ∉ x) : ∀ j,j ≤ x.length → lix (a ++ c :: x) c (a.length + 1 + j) = a.length
 | 0,_=>by
  rw [Nat.add_zero,lix,if_pos (by simp)]
 | j + 1,hj=>by
  rw [← Nat.add_assoc,lix,if_neg ?_,lix_mid h j (by omega)]
  intro e
  rw [List.getElem?_append_right (by omega),show a.length + 1 + j - a.length = j + 1 from by omega,List.getElem?_cons_succ] at e
  exact h (List.mem_of_getElem? e)
theorem lastix_does (w : World) (l : Str) (hl : l.length ≤ 1000000) : Does Tryz.prog 99 #[.string (su l),.int .u8 47] w fun r w'=>r = .int .i64 (lix l 47 l.length) ∧ w = w':=by
 refine does2 Tryz.func99 rfl (by kernel_rfl) ?_
 refine gz2 ?_
 refine tloop (α:=Nat) (fun k=>[(0,.string (su l)),(1,.int .u8 47),(5,.int .i64 ((k : Int) - 1))]) (fun k w'=>w = w' ∧ k ≤ l.length ∧ lix l 47 k = lix l 47 l.length) (fun k=>k) l.length (sub ⟨rfl,rfl,rfl⟩) ⟨rfl,Nat.le_refl _,rfl⟩ ?_
 rintro k w1 ⟨rfl,hk,hgo⟩
 cases k with
 | zero=>
  refine gz2 ?_
  exact tret1 rfl rfl ⟨by rw [← hgo];rfl,rfl⟩
 | succ k=>
  obtain ⟨c,hc⟩ : ∃ c,l[k]? = some c:=⟨_,List.getElem?_eq_getElem (by omega)⟩
  rw [lix,hc] at hgo
  by_cases h : c = 47
  ·have e1 : ((c.toNat : Int)) = 47:=by rw [h];rfl
   rw [if_pos (by rw [h])] at hgo
   repeat' (first | refine xui (z:=c) k rfl rfl rfl (by omega) hc ?_ | refine xuln1 rfl rfl ?_ | refine xuln rfl rfl ?_ | refine go1L ?_ | fail)
   exact tret1 rfl rfl ⟨by rw [← hgo];congr 1;omega,rfl⟩
  ·have e1 : ¬ ((c.toNat : Int)) = 47:=fun e=>h ((u8_eq (n:=47) (by decide)).1 e)
   rw [if_neg (fun e=>h (Option.some.inj e))] at hgo
   repeat' (first | refine xui (z:=c) k rfl rfl rfl (by omega) hc ?_ | refine xuln1 rfl rfl ?_ | refine xuln rfl rfl ?_ | refine go1L ?_ | fail)
   exact tfin ⟨k,sub ⟨rfl,rfl,ieq (by omega)⟩,⟨rfl,by omega,hgo⟩,(by show k < k + 1;omega)⟩
theorem slastix_does (w : World) (l : Str) (hl : l.length ≤ 1000000) : Does Tryz.prog 75 #[.string (su l),.int .u8 47] w fun r w'=>r = .int .i64 (lix l 47 l.length) ∧ w = w':=by
 refine does2 Tryz.func75 rfl (by kernel_rfl) ?_
 refine goL ?_
 refine xcall rfl rfl (lastix_does w l hl) (fun r w1 h1=>?_)
 exact y16
def parS (s : Str) : Str:=(parP s).getD []
theorem par_lix {s : Str} (hm : mayP s = true) (h0 : s ≠ []) : parP s = some (upP s) ∧ ((lix s 47 s.length = -1 ∧ upP s = []) ∨ ∃ k : Nat,lix s 47 s.length = k ∧ k ≤ s.length ∧ upP s = s.take k):=by
 have hne : partsP s ≠ []:=by rw [partsP_ok hm h0];exact cutU_ne s
 refine ⟨by unfold parP;rw [if_neg hne],?_⟩
 have hj:=join_parts hm
 obtain ⟨l,x,hl⟩ : ∃ l x,partsP s = l ++ [x]:=⟨_,_,(List.dropLast_concat_getLast hne).symm⟩
 have hx : (47 : UInt8) ∉ x:=by
  have : x ∈ cutU s:=by rw [← partsP_ok hm h0,hl];simp
  exact cutU_ns s x this
 rw [hl] at hj
 have hup : upP s = joinU l:=by unfold upP;rw [hl,List.dropLast_concat]
 by_cases h1 : l = []
 ·subst h1
  have : s = x:=hj.symm
  left
  exact ⟨by rw [this];exact lix_none hx _,by rw [hup];rfl⟩
 ·rw [join_snoc l x h1] at hj
  right
  refine ⟨(joinU l).length,?_,?_,?_⟩
  ·rw [← hj]
   have:=lix_mid (a:=joinU l) hx x.length (Nat.le_refl _)
   rw [List.length_append,List.length_cons,show (joinU l).length + (x.length + 1) = (joinU l).length + 1 + x.length from by omega]
   exact this
  ·rw [← hj];simp
  ·rw [hup,← hj,List.take_left]
theorem parent_does (w : World) (l : Str) : Does Tryz.prog 44 #[.string (su l)] w fun r w'=>r = .tuple #[.string (su (parS l)),.bool (parP l).isSome] ∧ Ext w w':=by
 refine does1 Tryz.func44 rfl (by kernel_rfl) ?_
 by_cases h0 : l = []
 ·subst h0
  refine gz12 ?_
  exact tret2 rfl rfl rfl ⟨rfl,Fr.refl _ _⟩
 refine gz6 ?_
 refine xcall rfl rfl (may_does w l) (fun r w1 h1=>?_)
 obtain ⟨rfl,hE⟩:=h1
 cases hm : mayP l with
 | false=>
  have e : parP l = none:=by unfold parP;rw [if_pos (partsP_no hm)]
  refine gz2 ?_
  exact tret2 rfl rfl rfl ⟨by rw [parS,e];rfl,hE⟩
 | true=>
  have hlen:=mayP_len hm
  obtain ⟨e,hc⟩:=par_lix hm h0
  refine gz2 ?_
  refine xcall rfl rfl (slastix_does w1 l (by omega)) (fun r w2 h2=>?_)
  obtain ⟨rfl,rfl⟩:=h2
  rcases hc with ⟨h1,h2⟩ | ⟨k,h1,h2,h3⟩
  ·rw [h1]
   refine gz2 ?_
   exact tret2 rfl rfl rfl ⟨by rw [parS,e,h2];rfl,hE⟩
  ·rw [h1]
   repeat' (first | refine xusl0 k rfl rfl rfl rfl h2 ?_ | refine xuln1 rfl rfl ?_ | refine xuln rfl rfl ?_ | refine go1L ?_ | fail)
   exact tret2 rfl rfl rfl ⟨by rw [parS,e,h3];rfl,hE⟩
theorem cut_count : ∀ s : Str,(cutU s).length = s.count 47 + 1
 | []=>rfl
 | c :: r=>by
  have ih:=cut_count r
  by_cases hc : c = 47
  ·subst hc;simp [cutU,ih]
  ·rw [cutU,if_neg hc,List.count_cons_of_ne hc]
   split
   ·rename_i h t e;rw [e] at ih;simpa using ih
   ·rename_i e;exact absurd e (cutU_ne r)
theorem sl_strs : SlT 71 9 (.string ⟨#[]⟩) 1 16:=slT Tryz.underlying71 (by kernel_rfl)
theorem last_get {l : List Str} (h : l ≠ []) : l[l.length - 1]? = some (l.getLastD []):=by
 rw [List.getLastD_eq_getLast?,List.getLast?_eq_getElem?]
 have : 0 < l.length:=List.length_pos_iff.2 h
 rw [List.getElem?_eq_getElem (by omega)];rfl
def ppS (s : Str) : List Str:=if s = [] then [] else cutU s
def GoodS (s : Str) : Prop:=s = [] ∨ ∀ x ∈ cutU s,x ≠ []
theorem pp_step {s : Str} (h : GoodS s) (h0 : s ≠ []) : ppS s = (cut1 s).1 :: ppS (cut1 s).2.1 ∧ GoodS (cut1 s).2.1 ∧ (cut1 s).2.1.length < s.length ∧ s.length ≤ (cut1 s).1.length + 1 + (cut1 s).2.1.length:=by
 have hg : ∀ x ∈ cutU s,x ≠ []:=h.resolve_left h0
 have hc:=cutU_cut s
 unfold ppS
 rw [if_neg h0,hc]
 cases hm : (cut1 s).2.2 with
 | false=>
  obtain ⟨e1,e2⟩:=cut1_no s hm
  rw [e2,e1]
  refine ⟨rfl,.inl rfl,List.length_pos_iff.2 h0,by simp⟩
 | true=>
  have hl:=cut1_len s hm
  rw [if_pos rfl]
  rw [hm,if_pos rfl] at hc
  have hne : (cut1 s).2.1 ≠ []:=by
   intro e
   exact hg [] (by rw [hc,e];simp [cutU]) rfl
  rw [if_neg hne]
  exact ⟨rfl,.inr fun x hx=>hg x (by rw [hc];exact List.mem_cons_of_mem _ hx),by omega,by omega⟩
theorem pp_parts {s : Str} (h : mayP s = true) : ppS s = partsP s ∧ GoodS s:=by
 by_cases h0 : s = []
 ·subst h0;exact ⟨rfl,.inl rfl⟩
 ·refine ⟨by unfold ppS;rw [if_neg h0,partsP_ok h h0],.inr fun x hx=>nameU_ne ((mayP_op h h0).1 x hx)⟩
structure LsI (a0 b0 : Str) (w0 : World) (x : Str × Str) (w : World) : Prop where
 ga : GoodS x.1
 gb : GoodS x.2
 la : x.1.length ≤ 100
 lb : x.2.length ≤ 100
 go : lessL (ppS x.1) (ppS x.2) = lessP a0 b0
 ext : Ext w0 w
theorem filt (a : Str) : ∃ a',(if mayP a then a else []) = a' ∧ ppS a' = partsP a ∧ GoodS a' ∧ a'.length ≤ 100:=by
 cases h : mayP a with
 | true=>exact ⟨a,rfl,(pp_parts h).1,(pp_parts h).2,mayP_len h⟩
 | false=>exact ⟨[],rfl,by rw [partsP_no h];rfl,.inl rfl,by simp⟩
theorem less_does (w : World) (a b : Str) : Does Tryz.prog 74 #[.string (su a),.string (su b)] w fun r w'=>r = .bool (lessP a b) ∧ Ext w w':=by
 refine does2 Tryz.func74 rfl (by kernel_rfl) ?_
 obtain ⟨a',ea,pa,ga,la⟩:=filt a
 obtain ⟨b',eb,pb,gb,lb⟩:=filt b
 refine goL ?_
 refine tscope1 (α:=Str × Str) 0 rfl (fun x=>[(0,.string (su x.1)),(1,.string (su x.2))]) (LsI a b w) (fun x=>x.1.length) ?_ ?_
 ·rintro ⟨p,q⟩ w1 ⟨hga,hgb,hla,hlb,hgo,hE⟩
  dsimp only at hga hgb hla hlb hgo ⊢
  by_cases hp : p = []
  ·subst hp
   by_cases hq : q = []
   ·subst hq
    repeat' (first | refine xucmp (op:=.neq) (b:=[]) (r:=false) rfl rfl rfl ?_ | refine xucmp (op:=.eql) (b:=[]) (r:=true) rfl rfl rfl ?_ | refine xuln1 rfl rfl ?_ | refine xuln rfl rfl ?_ | refine go1L ?_ | fail)
    exact tret1 rfl rfl ⟨by rw [← hgo];rfl,hE⟩
   ·repeat' (first | refine xucmp (op:=.neq) (b:=[]) (r:=false) rfl rfl rfl ?_ | refine xucmp (op:=.eql) (b:=[]) (r:=true) rfl rfl rfl ?_ | refine xucmp (op:=.neq) (b:=[]) (r:=true) rfl rfl (by simp [cmpU,hq]) ?_ | refine xuln1 rfl rfl ?_ | refine xuln rfl rfl ?_ | refine go1L ?_ | fail)
    refine tret1 rfl rfl ⟨?_,hE⟩
    rw [← hgo,(pp_step hgb hq).1];rfl
  ·by_cases hq : q = []
   ·subst hq
    repeat' (first | refine xucmp (op:=.neq) (b:=[]) (r:=false) rfl rfl rfl ?_ | refine xucmp (op:=.eql) (b:=[]) (r:=false) rfl rfl (by simp [cmpU,hp]) ?_ | refine xucmp (op:=.neq) (b:=[]) (r:=true) rfl rfl (by simp [cmpU,hp]) ?_ | refine xuln1 rfl rfl ?_ | refine xuln rfl rfl ?_ | refine go1L ?_ | fail)
    refine tret1 rfl rfl ⟨?_,hE⟩
    rw [← hgo,(pp_step hga hp).1];rfl
   ·obtain ⟨p1,p2,p3,_⟩:=pp_step hga hp
    obtain ⟨q1,q2,q3,_⟩:=pp_step hgb hq
    rw [p1,q1,lessL] at hgo
    repeat' (first | refine xucmp (op:=.neq) (a:=p) (b:=[]) (r:=true) rfl rfl (by simp [cmpU,hp]) ?_ | refine xucmp (op:=.neq) (a:=q) (b:=[]) (r:=true) rfl rfl (by simp [cmpU,hq]) ?_ | refine xuln1 rfl rfl ?_ | refine xuln rfl rfl ?_ | refine go1L ?_ | fail)
    refine xcall rfl rfl (cut_does w1 p (by omega)) (fun r w2 h2=>?_)
    obtain ⟨rfl,hE2⟩:=h2
    refine goL ?_
    refine xcall rfl rfl (cut_does w2 q (by omega)) (fun r w3 h3=>?_)
    obtain ⟨rfl,hE3⟩:=h3
    have hE4:=hE.t (hE2.t hE3)
    refine goL ?_
    by_cases e : (cut1 p).1 = (cut1 q).1
    ·rw [if_pos e] at hgo
     repeat' (first | refine xucmp (op:=.neq) (r:=false) rfl rfl (by simp [cmpU,e]) ?_ | refine xuln1 rfl rfl ?_ | refine xuln rfl rfl ?_ | refine go1L ?_ | fail)
     exact tgoto rfl ⟨_,(by show (cut1 p).2.1.length < p.length;omega),rfl,((cut1 p).2.1,(cut1 q).2.1),sub ⟨rfl,rfl⟩,⟨p2,q2,by dsimp only;omega,by dsimp only;omega,hgo,hE4⟩,rfl⟩
    ·rw [if_neg e] at hgo
     repeat' (first | refine xucmp (op:=.neq) (r:=true) rfl rfl (by simp [cmpU,e]) ?_ | refine xucmp (op:=.lss) rfl rfl rfl ?_ | refine xuln1 rfl rfl ?_ | refine xuln rfl rfl ?_ | refine go1L ?_ | fail)
     exact tret1 rfl rfl ⟨by rw [← hgo],hE4⟩
 ·intro H
  refine goL ?_
  refine xcall rfl rfl (may_does w a) (fun r w1 h1=>?_)
  obtain ⟨rfl,hE1⟩:=h1
  refine goL ?_
  refine tcut (α:=Unit) (fun _=>[(0,.string (su a')),(1,.string (su b))]) (fun _ w'=>w1 = w') ?_ ?_
  ·cases hm : mayP a with
   | true=>
    rw [hm,if_pos rfl] at ea
    subst ea
    exact y31
   | false=>
    rw [hm,if_neg (by decide)] at ea
    subst ea
    exact y31
  rintro _ _ rfl
  refine goL ?_
  refine xcall rfl rfl (may_does w1 b) (fun r w2 h2=>?_)
  obtain ⟨rfl,hE2⟩:=h2
  have fin : LsI a b w (a',b') w2:=⟨ga,gb,la,lb,by dsimp only;rw [pa,pb];rfl,hE1.t hE2⟩
  cases hm : mayP b with
  | true=>
   rw [hm,if_pos rfl] at eb
   subst eb
   refine goL ?_
   refine tlabel ?_
   exact tweak (H (a',b) w2 fin) (sub ⟨rfl,rfl⟩)
  | false=>
   rw [hm,if_neg (by decide)] at eb
   subst eb
   refine goL ?_
   refine tlabel ?_
   exact tweak (H (a',[]) w2 fin) (sub ⟨rfl,rfl⟩)
theorem pre_iff (s p : Str) : p.isPrefixOf s = (decide (p.length ≤ s.length) && decide (s.take p.length = p)):=by
 rw [Bool.eq_iff_iff,List.isPrefixOf_iff_prefix,Bool.and_eq_true,decide_eq_true_eq,decide_eq_true_eq]
 constructor
 ·intro h;exact ⟨h.length_le,(List.prefix_iff_eq_take.1 h).symm⟩
 ·rintro ⟨_,h⟩;exact List.prefix_iff_eq_take.2 h.symm
theorem slpre_does (w : World) (s p : Str) : Does Tryz.prog 184 #[.string (su s),.string (su p)] w fun r w'=>r = .bool (p.isPrefixOf s) ∧ w = w':=by
 refine does2 Tryz.func184 rfl (by kernel_rfl) ?_
 rw [pre_iff]
 by_cases h : p.length ≤ s.length
 ·rw [decide_eq_true h,Bool.true_and]
  repeat' (first | refine xusl0 p.length rfl rfl rfl rfl h ?_ | refine xucmp (op:=.eql) rfl rfl rfl ?_ | refine xuln1 rfl rfl ?_ | refine xuln rfl rfl ?_ | refine go1L ?_ | fail)
  exact y4
 ·rw [decide_eq_false h,Bool.false_and]
  refine gz2 ?_
  exact y4
theorem hpre_does (w : World) (s p : Str) : Does Tryz.prog 147 #[.string (su s),.string (su p)] w fun r w'=>r = .bool (p.isPrefixOf s) ∧ w = w':=by
 refine does2 Tryz.func147 rfl (by kernel_rfl) ?_
 refine goL ?_
 refine xcall rfl rfl (slpre_does w s p) (fun r w1 h1=>?_)
 exact y16
end
end Go.Proofs.YtbpmlbjapapoaaaGreatDoor.Eng
