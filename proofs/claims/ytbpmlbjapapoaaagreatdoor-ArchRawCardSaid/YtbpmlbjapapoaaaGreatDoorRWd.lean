/-
  Parts of the proof: Wd.
-/
import Derived.Test.YtbpmlbjapapoaaaGreatDoorRWc
set_option maxRecDepth 100000
set_option maxHeartbeats 64000000
namespace Go.Proofs.YtbpmlbjapapoaaaGreatDoor.Eng
open Go.RowKit
section
attribute [local irreducible] xs T
theorem bool_t {p : Bool} {q : Prop} (h : p = true ↔ q) (hq : q) : Value.bool true = Value.bool p:=by rw [h.2 hq]
theorem bool_f {p : Bool} {q : Prop} (h : p = true ↔ q) (hq : ¬ q) : Value.bool false = Value.bool p:=by
 cases p with
 | false=>rfl
 | true=>exact absurd (h.1 rfl) hq
def cmpZ (x y : Int) : Int:=if x < y then -1 else if y < x then 1 else 0
theorem cmpZ_neg (x y : Int) : cmpZ x y < 0 ↔ x < y:=by unfold cmpZ;split <;> (try split) <;> omega
theorem cmpZ_zero (x y : Int) : cmpZ x y = 0 ↔ x = y:=by unfold cmpZ;split <;> (try split) <;> omega
theorem isNaN_does (w : World) (x : Int) : Does Tryz.prog 207 #[.int .i64 x] w fun r w'=>r = .bool false ∧ w = w':=by
 refine does1 Tryz.func207 rfl (by kernel_rfl) ?_
 refine goL ?_
 exact y4
theorem compare_does (w : World) (x y : Int) : Does Tryz.prog 174 #[.int .i64 x,.int .i64 y] w fun r w'=>r = .int .i64 (cmpZ x y) ∧ w = w':=by
 refine does2 Tryz.func174 rfl (by kernel_rfl) ?_
 refine goL ?_
 refine xcall rfl rfl (isNaN_does w x) ?_
 rintro r w1 ⟨rfl,rfl⟩
 refine goL ?_
 refine xcall rfl rfl (isNaN_does w y) ?_
 rintro r w1 ⟨rfl,rfl⟩
 by_cases h1 : x < y
 ·refine goL ?_
  exact tret1 rfl rfl ⟨by unfold cmpZ;rw [if_pos h1],rfl⟩
 ·by_cases h2 : y < x
  ·refine goL ?_
   exact tret1 rfl rfl ⟨by unfold cmpZ;rw [if_neg h1,if_pos h2],rfl⟩
  ·refine goL ?_
   exact tret1 rfl rfl ⟨by unfold cmpZ;rw [if_neg h1,if_neg h2],rfl⟩
theorem or2_does (w : World) (b o c : Nat) (x y : Int) (hx : w.cell? ⟨b,o,none⟩ = some (.int .i64 x)) (hy : w.cell? ⟨b,o + 1,none⟩ = some (.int .i64 y)) :
  Does Tryz.prog 173 #[.slice (some ⟨b,o,none⟩) 2 c] w fun r w'=>r = .int .i64 (if x ≠ 0 then x else y) ∧ w = w':=by
 refine does1 Tryz.func173 rfl (by kernel_rfl) ?_
 refine goL ?_
 refine tloop (α:=Nat) (fun i=>[(3,.int .i64 0),(6,.slice (some ⟨b,o,none⟩) 2 c),(7,.int .i64 2),(8,.int .i64 (i : Int))]) (fun i w'=>w = w' ∧ i ≤ 2 ∧ (1 ≤ i → x = 0) ∧ (2 ≤ i → y = 0)) (fun i=>2 - i) 0 (sub ⟨rfl,rfl,rfl,rfl⟩) ⟨rfl,by omega,fun h=>by omega,fun h=>by omega⟩ ?_
 rintro i w' ⟨rfl,hi,h1,h2⟩
 by_cases e0 : i = 0
 ·subst e0
  by_cases hx0 : x = 0
  ·repeat' (first | refine xisq 0 o rfl rfl rfl rfl rfl (by omega) ?_ | refine go1L ?_ | fail)
   exact tfin ⟨1,sub ⟨rfl,rfl,rfl,rfl⟩,⟨rfl,by omega,fun _=>hx0,fun h=>by omega⟩,(by show 2 - 1 < 2 - 0;omega)⟩
  ·repeat' (first | refine xisq 0 o rfl rfl rfl rfl rfl (by omega) ?_ | refine go1L ?_ | fail)
   exact tret1 rfl rfl ⟨by rw [if_pos hx0],rfl⟩
 by_cases e1 : i = 1
 ·subst e1
  have hx0:=h1 (by omega)
  by_cases hy0 : y = 0
  ·repeat' (first | refine xisq 1 (o + 1) rfl rfl rfl rfl rfl (by omega) ?_ | refine go1L ?_ | fail)
   exact tfin ⟨2,sub ⟨rfl,rfl,rfl,rfl⟩,⟨rfl,by omega,fun _=>hx0,fun _=>hy0⟩,(by show 2 - 2 < 2 - 1;omega)⟩
  ·repeat' (first | refine xisq 1 (o + 1) rfl rfl rfl rfl rfl (by omega) ?_ | refine go1L ?_ | fail)
   exact tret1 rfl rfl ⟨by rw [if_neg (by simpa using hx0)],rfl⟩
 ·obtain rfl : i = 2:=by omega
  have hx0:=h1 (by omega)
  have hy0:=h2 (by omega)
  refine goL ?_
  exact tret1 rfl rfl ⟨by rw [if_neg (by simpa using hx0),hy0],rfl⟩
theorem acOK_iff (a : Ac) : acOK a = true ↔ 1 ≤ a.kind ∧ a.kind ≤ 3 ∧ 0 ≤ a.perm ∧ a.perm ≤ 7 ∧ 0 ≤ a.id ∧ a.id ≤ 2147483647 ∧ (a.kind = 3 → a.id = 0):=by
 simp only [acOK,Bool.and_eq_true,Bool.or_eq_true,decide_eq_true_eq]
 omega
theorem acgood_does (w : World) (a : Ac) : Does Tryz.prog 129 #[.agg (acC a).toArray] w fun r w'=>r = .bool (acOK a) ∧ Ext w w':=by
 refine does1 Tryz.func129 rfl (by kernel_rfl) ?_
 refine goL ?_
 refine xbox rfl (fun w1 hB1 hE1 hs1=>?_)
 have hB : Blk w1 w.heap.size 80 #[.int .i64 a.kind,.int .i64 a.id,.int .i64 a.perm]:=hB1
 have k0 : w1.cell? ⟨w.heap.size,0,none⟩ = some (.int .i64 a.kind):=hB.cell 0
 have k1 : w1.cell? ⟨w.heap.size,1,none⟩ = some (.int .i64 a.id):=hB.cell 1
 have k2 : w1.cell? ⟨w.heap.size,2,none⟩ = some (.int .i64 a.perm):=hB.cell 2
 repeat' (first | refine go1L ?_ | refine xs_eql rfl rfl (fun hc=>?_) (fun hc=>?_) | refine xs_neq rfl rfl (fun hc=>?_) (fun hc=>?_) | refine xs_lss rfl rfl (fun hc=>?_) (fun hc=>?_) | refine xs_leq rfl rfl (fun hc=>?_) (fun hc=>?_) | refine xs_gtr rfl rfl (fun hc=>?_) (fun hc=>?_) | refine xs_geq rfl rfl (fun hc=>?_) (fun hc=>?_) | fail)
 all_goals first | exact tret1 rfl rfl ⟨bool_t (acOK_iff a) (by omega),hE1⟩ | exact tret1 rfl rfl ⟨bool_f (acOK_iff a) (by omega),hE1⟩
def cmpA (a b : Ac) : Int:=if cmpZ a.kind b.kind ≠ 0 then cmpZ a.kind b.kind else cmpZ a.id b.id
theorem cmpA_lt (a b : Ac) : acLt a b = true ↔ cmpA a b < 0:=by
 unfold cmpA acLt
 have h1:=cmpZ_neg a.kind b.kind
 have h2:=cmpZ_zero a.kind b.kind
 have h3:=cmpZ_neg a.id b.id
 simp only [Bool.or_eq_true,Bool.and_eq_true,decide_eq_true_eq]
 split <;> omega
theorem sl_ints : SlT 38 3 (.int .i64 0) 1 8:=slT Tryz.underlying38 (by kernel_rfl)
theorem accmp_does (w : World) (a b : Ac) : Does Tryz.prog 130 #[.agg (acC a).toArray,.agg (acC b).toArray] w fun r w'=>r = .int .i64 (cmpA a b) ∧ Ext w w':=by
 refine does2 Tryz.func130 rfl (by kernel_rfl) ?_
 refine goL ?_
 refine xbox rfl (fun w1 hB1 hE1 hs1=>?_)
 refine goL ?_
 refine xbox rfl (fun w2 hB2 hE2 hs2=>?_)
 have hA : Blk w2 w.heap.size 80 #[.int .i64 a.kind,.int .i64 a.id,.int .i64 a.perm]:=hB1.ext hE2
 have hB : Blk w2 w1.heap.size 80 #[.int .i64 b.kind,.int .i64 b.id,.int .i64 b.perm]:=hB2
 have a0 : w2.drew.cell? ⟨w.heap.size,0,none⟩ = some (.int .i64 a.kind):=hA.cell 0
 have a1 : w2.drew.cell? ⟨w.heap.size,1,none⟩ = some (.int .i64 a.id):=hA.cell 1
 have b0 : w2.drew.cell? ⟨w1.heap.size,0,none⟩ = some (.int .i64 b.kind):=hB.cell 0
 have b1 : w2.drew.cell? ⟨w1.heap.size,1,none⟩ = some (.int .i64 b.id):=hB.cell 1
 refine goL ?_
 refine tdrawH [11,13] (fun w'=>w'.cell? ⟨w.heap.size,1,none⟩ = some (.int .i64 a.id) ∧ w'.cell? ⟨w1.heap.size,1,none⟩ = some (.int .i64 b.id)) (by kernel_rfl) (by decide +kernel) ⟨a1,b1⟩ ?_
 refine goL ?_
 refine xcall rfl rfl (compare_does w2.drew a.kind b.kind) ?_ ?_
 ·rintro r w3 ⟨rfl,rfl⟩
  repeat' (first | refine xldh rfl rfl (fun w' h=>h.1) ?_ | refine xldh rfl rfl (fun w' h=>h.2) ?_ | refine go1L ?_ | fail)
  refine xcall rfl rfl (compare_does w2.drew a.id b.id) ?_ ?_
  ·rintro r w3 ⟨rfl,rfl⟩
   refine goL ?_
   refine xbs (vs:=[.int .i64 (cmpZ a.kind b.kind),.int .i64 (cmpZ a.id b.id)]) sl_ints rfl rfl (by decide) (by decide) (fun u hu=>by
    simp only [List.mem_cons,List.not_mem_nil,or_false] at hu
    rcases hu with rfl | rfl <;> rfl) (fun w3 hB3 hE3 hs3=>?_) (fun w' h=>⟨h.cell a1,h.cell b1⟩)
   refine goL ?_
   refine xcall rfl rfl (or2_does w3 _ 0 2 (cmpZ a.kind b.kind) (cmpZ a.id b.id) (hB3.cell 0) (hB3.cell 1)) ?_ ?_
   ·rintro r w4 ⟨rfl,rfl⟩
    refine goL ?_
    exact tret1 rfl rfl ⟨rfl,hE1.t (hE2.d.t hE3)⟩
   ·rintro r w4 ⟨_,rfl⟩
    exact ⟨hE3.cell a1,hE3.cell b1⟩
  ·rintro r w3 ⟨_,rfl⟩
   exact ⟨a1,b1⟩
 ·rintro r w3 ⟨_,rfl⟩
  exact ⟨a1,b1⟩
def maskP : List Ac → Int × Bool
 | []=>(0,false)
 | a :: r=>if a.kind = 3 then (a.perm,true) else maskP r
theorem maskP_any : ∀ l : List Ac,(maskP l).2 = l.any fun a=>decide (a.kind = 3)
 | []=>rfl
 | a :: r=>by
  rw [maskP,List.any_cons]
  by_cases h : a.kind = 3
  ·simp [h]
  ·simp [h,maskP_any r]
theorem mask_does (w : World) (v : Value) (l : List Ac) (hv : Rw acC w v l) : Does Tryz.prog 131 #[v] w fun r w'=>r = .tuple #[.int .i64 (maskP l).1,.bool (maskP l).2] ∧ w = w':=by
 refine does1 Tryz.func131 rfl (by kernel_rfl) ?_
 obtain ⟨A,c,rfl,hc1,hc2,hA⟩:=hv.op acC_len
 refine goL ?_
 refine tscope1 (α:=Nat) 0 rfl (fun i=>[(0,.slice A l.length c),(4,.int .i64 (i : Int))]) (fun i w'=>w = w' ∧ i ≤ l.length ∧ maskP (l.drop i) = maskP l) (fun i=>l.length - i) ?_ ?_
 ·rintro i w' ⟨rfl,hi,hgo⟩
  by_cases hlt : i < l.length
  ·obtain ⟨b,o,x,rfl,_,hx,hdr,hcell⟩:=hA.at_ hlt
   rw [hdr,maskP] at hgo
   have k0 : w.cell? ⟨b,o + i * 3 + 0,none⟩ = some (.int .i64 x.kind):=hcell 0 _ rfl
   have k2 : w.cell? ⟨b,o + i * 3 + 2,none⟩ = some (.int .i64 x.perm):=hcell 2 _ rfl
   by_cases h : x.kind = 3
   ·rw [if_pos h] at hgo
    refine gz8 ?_
    exact tret2 rfl rfl rfl ⟨by rw [← hgo],rfl⟩
   ·rw [if_neg h] at hgo
    refine gz8 ?_
    exact y72
  ·obtain rfl : i = l.length:=by omega
   rw [List.drop_length] at hgo
   refine goL ?_
   exact tret2 rfl rfl rfl ⟨by rw [← hgo];rfl,rfl⟩
 ·intro H
  refine goL ?_
  refine tlabel ?_
  exact tweak (H 0 w ⟨rfl,Nat.zero_le _,rfl⟩) (sub ⟨rfl,rfl⟩)
def goodG {α : Type} (ok : α → Bool) (lt : α → α → Bool) : Option α → List α → Bool
 | _,[]=>true
 | p,x :: r=>ok x && (match p with | none=>true | some y=>lt y x) && goodG ok lt (some x) r
theorem goodG_eq {α : Type} (ok : α → Bool) (lt : α → α → Bool) : ∀ (l : List α) (p : Option α),goodG ok lt p l = (l.all ok && ascF lt p l)
 | [],p=>by cases p <;> rfl
 | x :: r,none=>by
  rw [goodG,goodG_eq ok lt r,List.all_cons,ascF]
  simp [Bool.and_assoc]
 | x :: r,some y=>by
  rw [goodG,goodG_eq ok lt r,List.all_cons,ascF]
  cases ok x <;> cases lt y x <;> simp
def prevO {α : Type} (l : List α) : Nat → Option α
 | 0=>none
 | k + 1=>l[k]?
theorem prev_next {α : Type} {l : List α} {i : Nat} {x : α} (hx : l[i]? = some x) : prevO l (i + 1) = some x:=hx
theorem goodG_step {α : Type} {ok : α → Bool} {lt : α → α → Bool} {l : List α} {i : Nat} {x : α} (hx : l[i]? = some x) : goodG ok lt (prevO l i) (l.drop i) = (ok x && (match prevO l i with | none=>true | some y=>lt y x) && goodG ok lt (prevO l (i + 1)) (l.drop (i + 1))):=by
 rw [drop_get hx,prev_next hx]
 generalize prevO l i = p
 cases p <;> rfl
theorem xcallE {hs : List Nat} {full : Array Oper} {K : Env → World → Prop} {rest : List Oper} {env : Env} {w : World} {dst : Option Tmp} {ty : TypeId} {pos : String} {af : Array Edge} {f : FuncId} {args : List Operand} {ats : Array TypeId} {vs : List Value} {S : Value → World → Prop} (ha : evs env args = some vs) (hf : bit m_cal f = true) (hd : Does Tryz.prog f vs.toArray w S)
  (h : ∀ v w',S v w' → xs Tryz.prog isI isS hs noH full K rest (put env dst v) w') : xs Tryz.prog isI isS hs noH full K (⟨dst,.call { callee:=.value (.func f),args:=args.toArray,argTypes:=ats },ty,pos,af,none⟩ :: rest) env w:=
 xcall ha hf hd h (fun _ _ _=>True.intro)
theorem aclmay_does (w : World) (v : Value) (l : List Ac) (hv : Rw acC w v l) : Does Tryz.prog 102 #[v] w fun r w'=>r = .bool (aclOK l) ∧ Ext w w':=by
 refine does1 Tryz.func102 rfl (by kernel_rfl) ?_
 obtain ⟨A,c,rfl,hc1,hc2,hA⟩:=hv.op acC_len
 unfold aclOK
 by_cases h16 : ¬ l.length ≤ 16
 ·refine goL ?_
  refine tscope0 ?_
  refine goL ?_
  exact tret1 rfl rfl ⟨by simp [h16],Fr.refl _ _⟩
 have h16 : l.length ≤ 16:=by omega
 rw [decide_eq_true h16,Bool.true_and,← goodG_eq,← maskP_any]
 refine goL ?_
 refine tscope1 (α:=Nat) 0 rfl (fun i=>[(0,.slice A l.length c),(3,.int .i64 (i : Int))]) (fun i w'=>Ext w w' ∧ i ≤ l.length ∧ goodG acOK acLt (prevO l i) (l.drop i) = goodG acOK acLt none l) (fun i=>l.length - i) ?_ ?_
 ·rintro i w1 ⟨hE,hi,hgo⟩
  by_cases hlt : i < l.length
  ·obtain ⟨b,o,x,rfl,_,hx,hdr,hcell⟩:=hA.at_ hlt
   rw [goodG_step hx] at hgo
   have hxc : ∀ j u,(acC x)[j]? = some u → w1.drew.cell? ⟨b,o + i * 3 + j,none⟩ = some u:=fun j u hu=>hE.cell (hcell j u hu)
   refine gz8 ?_
   refine xldz (cs:=acC x) rfl rfl hxc ?_
   refine xcallE rfl rfl (acgood_does w1.drew x) (fun r w2 h2=>?_)
   obtain ⟨rfl,hE2⟩:=h2
   have hE02 : Ext w w2:=hE.d.t hE2
   cases hg : acOK x with
   | false=>
    rw [hg,Bool.false_and,Bool.false_and] at hgo
    refine goL ?_
    exact tret1 rfl rfl ⟨by rw [← hgo];rfl,hE02⟩
   | true=>
    rw [hg,Bool.true_and] at hgo
    cases i with
    | zero=>
     have hgo : goodG acOK acLt (prevO l (0 + 1)) (l.drop (0 + 1)) = goodG acOK acLt none l:=by simpa [prevO] using hgo
     refine goL ?_
     exact tgoto rfl ⟨_,(by show l.length - (0 + 1) < l.length - 0;omega),rfl,0 + 1,sub ⟨rfl,rfl⟩,⟨hE02,by omega,hgo⟩,rfl⟩
    | succ k=>
     obtain ⟨y,hy⟩ : ∃ y,l[k]? = some y:=⟨_,List.getElem?_eq_getElem (by omega)⟩
     have hpy : prevO l (k + 1) = some y:=hy
     rw [hpy] at hgo
     dsimp only at hgo
     obtain ⟨b',o',y',e',_,hy',_,hcell'⟩:=hA.at_ (i:=k) (by omega)
     injection e' with e'
     injection e' with e1 e2
     subst e1;subst e2
     rw [hy] at hy'
     injection hy' with hy'
     subst hy'
     have hyc : ∀ j u,(acC y)[j]? = some u → w2.cell? ⟨b,o + k * 3 + j,none⟩ = some u:=fun j u hu=>hE02.cell (hcell' j u hu)
     have hxc2 : ∀ j u,(acC x)[j]? = some u → w2.cell? ⟨b,o + (k + 1) * 3 + j,none⟩ = some u:=fun j u hu=>hE2.cell (hxc j u hu)
     repeat' (first | refine xizq k (o + k * 3) rfl rfl rfl (by omega) rfl (by omega) ?_ | refine go1L ?_ | fail)
     refine xldz (cs:=acC y) rfl rfl hyc ?_
     repeat' (first | refine xizq (k + 1) (o + (k + 1) * 3) rfl rfl rfl rfl rfl hlt ?_ | refine go1L ?_ | fail)
     refine xldz (cs:=acC x) rfl rfl hxc2 ?_
     refine goL ?_
     refine xcallE rfl rfl (accmp_does w2 y x) (fun r w3 h3=>?_)
     obtain ⟨rfl,hE3⟩:=h3
     have hE03 : Ext w w3:=hE02.t hE3
     cases hlt2 : acLt y x with
     | false=>
      rw [hlt2,Bool.false_and] at hgo
      have hn : ¬ cmpA y x < 0:=fun h=>by rw [(cmpA_lt y x).2 h] at hlt2;cases hlt2
      refine goL ?_
      exact tret1 rfl rfl ⟨by rw [← hgo];rfl,hE03⟩
     | true=>
      rw [hlt2,Bool.true_and] at hgo
      have hn:=(cmpA_lt y x).1 hlt2
      refine goL ?_
      exact y52
  ·obtain rfl : i = l.length:=by omega
   rw [List.drop_length] at hgo
   rw [← hgo]
   refine goL ?_
   refine xcall rfl rfl (mask_does w1 _ l (hv.ext hE)) (fun r w2 h2=>?_)
   obtain ⟨rfl,rfl⟩:=h2
   cases hm : (maskP l).2 with
   | true=>
    exact y42
   | false=>
    by_cases h0 : l.length = 0
    ·have e0 : l = []:=List.length_eq_zero_iff.1 h0
     refine goL ?_
     exact tret1 rfl rfl ⟨by simp [goodG,e0],hE⟩
    ·have e0 : l ≠ []:=fun e=>h0 (by rw [e];rfl)
     refine goL ?_
     exact tret1 rfl rfl ⟨by simp [goodG,e0],hE⟩
 ·intro H
  refine goL ?_
  refine tlabel ?_
  exact tweak (H 0 w ⟨Fr.refl _ _,Nat.zero_le _,rfl⟩) (sub ⟨rfl,rfl⟩)
end
end Go.Proofs.YtbpmlbjapapoaaaGreatDoor.Eng
