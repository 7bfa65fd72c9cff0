/-
  Parts of the proof: Ai.
-/
import Derived.Test.YtbpmlbjapapoaaaGreatDoorRB0b
import Derived.Test.YtbpmlbjapapoaaaGreatDoorRB12
import Derived.Test.YtbpmlbjapapoaaaGreatDoorRWl
set_option maxRecDepth 100000
set_option maxHeartbeats 64000000
namespace Go.Proofs.YtbpmlbjapapoaaaGreatDoor.Eng
open Go.RowKit
section
open Go.RowKit Go.Lib
attribute [local irreducible] xs T
section
variable {hs : List Nat} {H : World → Prop} {full : Array Oper} {K : Env → World → Prop} {rest : List Oper} {env : Env} {w : World} {d : Tmp} {ty : TypeId} {pos : String} {af : Array Edge}
theorem xsub8 {t yt : TypeId} {x y : Operand} {a b : Int} (hx : evo env x = some (.int .u8 a)) (hy : evo env y = some (.int .u8 b)) (h1 : 0 ≤ a - b) (h2 : a - b < 256)
  (h : xs Tryz.prog isI isS hs H full K rest ((d,.int .u8 (a - b)) :: env) w) : xs Tryz.prog isI isS hs H full K (⟨some d,.binOp .sub t x y yt,ty,pos,af,none⟩ :: rest) env w:=by
 have hw : IntKind.u8.wrap (a - b) = a - b:=by simp [IntKind.wrap,IntKind.signed,IntKind.bits];omega
 refine x_bin hx hy (eqGuard_at_int ..) (fun w'=>?_) h
 simp [binOp,Op.intArith,hw]
end
theorem pre48 (s : Str) : ([48] : Str).isPrefixOf s = decide (s.head? = some 48):=by
 cases s with
 | nil=>rfl
 | cons c r=>
  show ((48 : UInt8) == c && true) = decide (some c = some 48)
  rw [Bool.and_true,Bool.eq_iff_iff,beq_iff_eq,decide_eq_true_eq]
  exact ⟨fun h=>by rw [h],fun h=>(Option.some.inj h).symm⟩
theorem length_does (w : World) (s : Str) : Does Tryz.prog 112 #[.string (su s)] w fun r w'=>r = .int .i64 (lenS s : Int) ∧ w = w':=by
 refine does1 Tryz.func112 rfl (by kernel_rfl) ?_
 by_cases h4 : 4 < s.length
 ·have e : lenS s = 0:=by unfold lenS;rw [if_pos (.inl h4)]
  rw [e]
  refine gz2 ?_
  refine tscope0 ?_
  refine gz2 ?_
  exact y4
 have hh:=hpre_does w s [48]
 rw [pre48] at hh
 by_cases h0 : s.head? = some 48
 ·have e : lenS s = 0:=by unfold lenS;rw [if_pos (.inr h0)]
  rw [e]
  rw [decide_eq_true h0] at hh
  refine gz2 ?_
  refine tscope0 ?_
  refine gz2 ?_
  refine xcall rfl rfl hh (fun r w1 h1=>?_)
  obtain ⟨rfl,rfl⟩:=h1
  refine gz2 ?_
  exact y4
 rw [decide_eq_false h0] at hh
 have e : lenS s = match digF 0 s with
  | some n=>if 4000 < n then 0 else n
  | none=>0:=by unfold lenS;rw [if_neg (fun hc=>hc.elim h4 h0)];cases digF 0 s <;> rfl
 refine gz2 ?_
 refine tscope1 (α:=Nat × Nat) 0 rfl (fun y=>[(0,.string (su s)),(3,.int .i64 (y.2 : Int)),(4,.int .i64 (y.1 : Int))]) (fun y w'=>w = w' ∧ y.1 ≤ s.length ∧ y.2 < 10 ^ y.1 ∧ digF y.2 (s.drop y.1) = digF 0 s) (fun y=>s.length - y.1) ?_ ?_
 ·rintro ⟨i,n⟩ w' ⟨rfl,hi,hn,hgo⟩
  dsimp only at hi hn hgo ⊢
  have hp : 10 ^ i ≤ 10 ^ 4:=Nat.pow_le_pow_right (by decide) (by omega)
  have hn4 : n < 10000:=by omega
  by_cases hlt : i < s.length
  ·obtain ⟨c,hc⟩ : ∃ c,s[i]? = some c:=⟨_,List.getElem?_eq_getElem hlt⟩
   have hdr : s.drop i = c :: s.drop (i + 1):=by
    rw [List.drop_eq_getElem_cons hlt];congr 1;exact (List.getElem?_eq_some_iff.1 hc).2
   rw [hdr,digF] at hgo
   have hcl:=c.toNat_lt
   by_cases g1 : 48 ≤ c.toNat ∧ c.toNat ≤ 57
   ·rw [if_pos g1] at hgo
    obtain ⟨ga,gb⟩:=g1
    have hpow : 10 ^ (i + 1) = 10 * 10 ^ i:=by rw [Nat.pow_succ,Nat.mul_comm]
    have esub : (c.toNat : Int) - 48 = ((c.toNat - 48 : Nat) : Int):=by omega
    repeat' (first | refine xui (z:=c) i rfl rfl rfl rfl hc ?_ | refine xsub8 rfl rfl (by omega) (by omega) ?_ | refine xuln1 rfl rfl ?_ | refine xuln rfl rfl ?_ | refine go1LU ?_ | fail)
    exact tgoto rfl ⟨_,(by show s.length - (i + 1) < s.length - i;omega),rfl,(i + 1,10 * n + (c.toNat - 48)),sub ⟨rfl,ieq (by dsimp only;omega),ieq (by dsimp only;omega)⟩,⟨rfl,hlt,(by show 10 * n + (c.toNat - 48) < 10 ^ (i + 1);omega),hgo⟩,rfl⟩
   ·rw [if_neg g1] at hgo
    have e0 : lenS s = 0:=by rw [e,← hgo]
    rw [e0]
    by_cases g2 : c.toNat < 48
    ·refine gz3 ?_
     exact y4
    ·have g3 : 57 < c.toNat:=by omega
     refine gz3 ?_
     exact y4
  ·obtain rfl : i = s.length:=by omega
   rw [List.drop_length,digF] at hgo
   rw [← hgo] at e
   by_cases hb : 4000 < n
   ·have e0 : lenS s = 0:=by rw [e];exact if_pos hb
    rw [e0]
    refine gz2 ?_
    exact y4
   ·have e0 : lenS s = n:=by rw [e];exact if_neg hb
    rw [e0]
    refine gz2 ?_
    exact y4
 ·intro H
  refine gz2 ?_
  refine xcall rfl rfl hh (fun r w1 h1=>?_)
  obtain ⟨rfl,rfl⟩:=h1
  refine gz2 ?_
  refine tlabel ?_
  exact tweak (H (0,0) w ⟨rfl,Nat.zero_le _,by decide,rfl⟩) (sub ⟨rfl,rfl,rfl⟩)
theorem repL (c : UInt8) : ∀ n,Lib.repeatL [c] n = List.replicate n c
 | 0=>rfl
 | n + 1=>by rw [Lib.repeatL,repL c n];rfl
theorem rep_does (w : World) (n : Nat) (hn : n ≤ 4000) : Does Tryz.prog 113 #[.string (su [120]),.int .i64 (n : Int)] w fun r w'=>r = .string (su (List.replicate n 120)) ∧ Ext w w':=by
 refine Calls.mono (Any.strings_Repeat laysRepeat laysRepeatX (su [120]) n w (by omega) (by show 1 * n ≤ _;omega)) fun e w' ⟨he,hB⟩=>?_
 refine ⟨_,he,?_,?_⟩
 ·show Value.string ⟨(Lib.repeatL [120] n).toArray⟩ = _
  rw [repL];rfl
 ·exact ⟨hB.os,hB.tape,hB.output,hB.size,fun j hj _=>hB.block j hj⟩
theorem rzero_does (w : World) (x : NdV) (hx : NdIn w x) : Does Tryz.prog 82 #[.agg (ndC x).toArray] w fun r w'=>r = .bool (decide (x.n = ndZ)) ∧ Ext w w':=by
 refine does1 Tryz.func82 rfl (by kernel_rfl) ?_
 refine goL ?_
 refine xbox rfl (fun w1 hB1 hE1 hs1=>?_)
 refine goL ?_
 refine xlda (t:=47) hB1 rfl rfl ?_
 refine xbd (cells:=(ndC ndZV).toArray) rfl (by kernel_rfl) ?_
 refine xcall rfl rfl (same_does w1 x ndZV (hx.ext hE1) ⟨Rw.nil _ _ (by decide),Rw.nil _ _ (by decide),Rw.nil _ _ (by decide)⟩) (fun r w2 h2=>?_)
 obtain ⟨rfl,hE2⟩:=h2
 refine goL ?_
 exact tret1 rfl rfl ⟨rfl,hE1.t hE2⟩
structure FulI (w : World) (x : NdV) (g : Nat) (y : Nat × NdV) (w' : World) : Prop where
 le : y.1 ≤ x.n.data.length
 n : y.2.n = { x.n with data:=(x.n.data.take y.1).map (fulP 120) ++ x.n.data.drop y.1 }
 va : y.2.va = x.va
 vc : y.2.vc = x.vc
 B : Blk w' g 47 (ndC y.2).toArray
 R : Blk w' (g + 1) 47 (ndC ndZV).toArray
 d : Ow pcC 2 w' (g + 2) 65 y.2.vd y.2.n.data
 ext : Ext w w'
 ok : lensOK (x.n.data.take y.1) = true
theorem lensOK_all {l : List Pce} {i : Nat} {p : Pce} (hp : l[i]? = some p) (h : lensOK (l.take i) = true) (h0 : lenS p.data ≠ 0) : lensOK (l.take (i + 1)) = true:=by
 unfold lensOK at h ⊢
 rw [take_one hp,List.all_append,h]
 simp [h0]
theorem lensOK_not {l : List Pce} {i : Nat} {p : Pce} (hp : l[i]? = some p) (h0 : lenS p.data = 0) : lensOK l = false:=by
 cases hl : lensOK l with
 | false=>rfl
 | true=>
  have:=List.all_eq_true.1 hl p (List.mem_of_getElem? hp)
  rw [decide_eq_true_eq] at this
  exact absurd h0 this
def FullR (w : World) (x : NdV) (r : Value) (w' : World) : Prop:=Ext w w' ∧ match fullN x.n with
 | some m=>∃ x' : NdV,r = .tuple #[.agg (ndC x').toArray,.bool true] ∧ x'.n = m ∧ NdIn w' x'
 | none=>r = .tuple #[.agg (ndC ndZV).toArray,.bool false]
theorem full_does (w : World) (x : NdV) (hx : NdIn w x) : Does Tryz.prog 83 #[.agg (ndC x).toArray] w (FullR w x):=by
 refine does1 Tryz.func83 rfl (by kernel_rfl) ?_
 have hN : ∀ {a b c : World} {g : Nat},Ext a b → Fr (· = g) b c → a.heap.size ≤ g → Ext a c:=fun h1 h2 hg=>h1.trans h2 fun j hj e=>absurd hj (by omega)
 obtain ⟨Aa,ca,hva,_,_,_⟩:=hx.a.op attC_len
 obtain ⟨Ac,cc,hvc,_,_,_⟩:=hx.c.op acC_len
 obtain ⟨Ad,cd,hvd,_,_,_⟩:=hx.d.op pcC_len
 refine goL ?_
 refine xbox rfl (fun w1 hB1 hE1 hs1=>?_)
 obtain ⟨g,hg⟩ : ∃ g,g = w.heap.size:=⟨_,rfl⟩
 rw [← hg] at hB1 hs1 ⊢
 refine goL ?_
 refine xalloc (z:=.agg (ndC ndZV).toArray) (by kernel_rfl) (fun w2 hB2 hE2 hs2=>?_)
 rw [hs1] at hB2 hs2 ⊢
 have hB : Blk w2 g 47 (ndC x).toArray:=Blk.ext hB1 hE2
 have hE02 : Ext w w2:=hE1.t hE2
 have k0 : w2.cell? ⟨g,0,none⟩ = some (.int .i64 x.n.kind):=hB.cell 0
 have k8 : w2.cell? ⟨g,8,none⟩ = some (.slice Ad x.n.data.length cd):=by rw [← hvd];exact hB.cell 8
 by_cases hk : x.n.kind ≠ 2
 ·refine goL ?_
  refine tscope0 ?_
  refine goL ?_
  refine xlda (t:=47) hB rfl rfl ?_
  refine xsta hB2 rfl rfl (by kernel_rfl) rfl (one_cells (one_nd hx)) (fun w3 hB3 hF3=>?_)
  have hE3 : Ext w w3:=hN hE02 hF3 (by omega)
  refine goL ?_
  refine tretc2 rfl rfl rfl hB3 (by kernel_rfl) ⟨hE3,?_⟩
  rw [show fullN x.n = some x.n from if_pos hk]
  exact ⟨x,rfl,rfl,hx.ext hE3⟩
 have hk : x.n.kind = 2:=Classical.not_not.1 hk
 by_cases h16 : 16 < x.n.data.length
 ·have e : fullN x.n = none:=by unfold fullN;rw [if_neg (fun h=>h hk),if_pos h16]
  refine goL ?_
  refine tscope0 ?_
  refine goL ?_
  refine xbd (cells:=(ndC ndZV).toArray) rfl (by kernel_rfl) ?_
  refine xsta hB2 rfl rfl (by kernel_rfl) rfl (by kernel_rfl) (fun w7 hB7 hF7=>?_)
  refine goL ?_
  refine tretc2 rfl rfl rfl hB7 (by kernel_rfl) ⟨hN hE02 hF7 (by omega),?_⟩
  rw [e]
 have e : fullN x.n = if lensOK x.n.data then some { x.n with data:=x.n.data.map (fulP 120) } else none:=by unfold fullN;rw [if_neg (fun h=>h hk),if_neg h16]
 refine goL ?_
 refine tscope1 (α:=Nat × NdV) 0 rfl (fun y=>[(1,.pointer (some ⟨g,0,none⟩)),(2,.pointer (some ⟨g + 1,0,none⟩)),(4,.int .i64 (y.1 : Int))]) (FulI w x g) (fun y=>x.n.data.length - y.1) ?_ ?_
 ·rintro ⟨i,⟨yn,ya,yc,yd⟩⟩ w' h
  obtain ⟨hi,hn,hya,hyc,hB',hR,hOd,hE,hok⟩:=h
  dsimp only at hi hn hya hyc hB' hR hOd hok ⊢
  rw [hva] at hya;rw [hvc] at hyc
  subst hya;subst hyc
  have hyl : yn.data.length = x.n.data.length:=by rw [hn];simp;omega
  have hat : yn.attrs = x.n.attrs:=by rw [hn]
  have hac : yn.acl = x.n.acl:=by rw [hn]
  by_cases hlt : i < x.n.data.length
  ·obtain ⟨g3,c3,rfl,hg3,hg3l,_,_⟩:=hOd.go (by omega)
   have hlt' : i < yn.data.length:=by omega
   obtain ⟨A,c,e3,_,_,hA⟩:=hOd.rw.op pcC_len
   injection e3 with e3 _ _
   subst e3
   obtain ⟨b,o,p,e4,_,hp,_,hcell⟩:=hA.at_ hlt'
   injection e4 with e4
   injection e4 with e4 e5 _
   subst e4;subst e5
   have hp0 : x.n.data[i]? = some p:=by
    rw [hn] at hp
    have : ((x.n.data.take i).map (fulP 120) ++ x.n.data.drop i)[i]? = some p:=hp
    rw [List.getElem?_append_right (by simp;omega)] at this
    simpa [Nat.min_eq_left (Nat.le_of_lt hlt)] using this
   have k8w : w'.cell? ⟨g,8,none⟩ = some (.slice (some ⟨g3,0,none⟩) yn.data.length c3):=hB'.cell 8
   have k1w : w'.cell? ⟨g3,0 + i * 2 + 1,none⟩ = some (.string (su p.data)):=hcell 1 _ rfl
   refine gz13 ?_
   refine xcallE rfl rfl (length_does w' p.data) (fun r w3 h3=>?_)
   obtain ⟨rfl,rfl⟩:=h3
   by_cases hz : lenS p.data = 0
   ·rw [hz]
    refine goL ?_
    refine xbd (cells:=(ndC ndZV).toArray) rfl (by kernel_rfl) ?_
    refine xsta hR rfl rfl (by kernel_rfl) rfl (by kernel_rfl) (fun w7 hB7 hF7=>?_)
    refine goL ?_
    refine tretc2 rfl rfl rfl hB7 (by kernel_rfl) ⟨hN hE hF7 (by omega),?_⟩
    rw [e,lensOK_not hp0 hz]
    rfl
   have hll:=lenS_le p.data
   have hBd:=hB'.ext (Fr.drew _ w')
   have hEd : Ext w w'.drew:=hE.t (Fr.drew _ w')
   refine goL ?_
   refine tdrawH [36] (fun w''=>Blk w'' g 47 (ndC ⟨yn,.slice Aa x.n.attrs.length ca,.slice Ac x.n.acl.length cc,.slice (some ⟨g3,0,none⟩) yn.data.length c3⟩).toArray) (by kernel_rfl) (by decide +kernel) hBd ?_
   refine goL ?_
   refine xldh (v:=.slice (some ⟨g3,0,none⟩) yn.data.length c3) rfl (by kernel_rfl) (fun w'' h=>(Blk.cell h 8 : _)) ?_
   refine goL ?_
   have hBall : ∀ {w3 : World},Ext w'.drew w3 → Blk w3 g 47 (ndC ⟨yn,.slice Aa x.n.attrs.length ca,.slice Ac x.n.acl.length cc,.slice (some ⟨g3,0,none⟩) yn.data.length c3⟩).toArray:=fun h=>hBd.ext h
   refine xcall rfl rfl (rep_does w'.drew (lenS p.data) hll) (fun r w3 h3=>?_) (fun r w3 h3=>hBall h3.2)
   obtain ⟨rfl,hE3⟩:=h3
   have z3:=hE3.size
   refine gz13 ?_
   have zd : w'.heap.size ≤ w'.drew.heap.size:=(Fr.drew noneB w').size
   have hO3:=(hOd.ext (Fr.drew _ w')).ext hE3
   have hE03 : Ext w w3:=hEd.t hE3
   refine xstc pcC_len (x':=fulP 120 p) i 1 hO3 rfl rfl (by omega) (by omega) (by kernel_rfl) rfl hp rfl (fun w4 hO4 hF4=>?_) (fun w4 hF4=>(hBall hE3).fr hF4 (show ¬ g = g3 by omega))
   have hB4:=(hBall hE3).fr hF4 (show ¬ g = g3 by omega)
   have hR4:=((hR.ext (Fr.drew _ w')).ext hE3).fr hF4 (show ¬ g + 1 = g3 by omega)
   have hn4 : ({ yn with data:=yn.data.set i (fulP 120 p) } : Nd) = { x.n with data:=(x.n.data.take (i + 1)).map (fulP 120) ++ x.n.data.drop (i + 1) }:=by
    rw [hn]
    have:=set_bar (fulP 120) (fun a : Pce=>a) hp0
    show ({ x.n with data:=((x.n.data.take i).map (fulP 120) ++ x.n.data.drop i).set i (fulP 120 p) } : Nd) = _
    rw [show ((x.n.data.take i).map (fulP 120) ++ x.n.data.drop i).set i (fulP 120 p) = (x.n.data.take (i + 1)).map (fulP 120) ++ x.n.data.drop (i + 1) from this]
   have hlen4 : (yn.data.set i (fulP 120 p)).length = yn.data.length:=List.length_set
   have hO4' : Ow pcC 2 w4 (g + 2) 65 (.slice (some ⟨g3,0,none⟩) yn.data.length c3) (yn.data.set i (fulP 120 p)):=hO4
   refine goL ?_
   exact tgoto rfl ⟨_,(by show x.n.data.length - (i + 1) < x.n.data.length - i;omega),rfl,(i + 1,⟨{ yn with data:=yn.data.set i (fulP 120 p) },.slice Aa x.n.attrs.length ca,.slice Ac x.n.acl.length cc,.slice (some ⟨g3,0,none⟩) yn.data.length c3⟩),sub ⟨rfl,rfl,ieq (by dsimp only;omega)⟩,⟨by show i + 1 ≤ _;omega,hn4,hva.symm,hvc.symm,hB4,hR4,(by show Ow pcC 2 w4 (g + 2) _ _ _;exact hO4'),hN hE03 hF4 (by omega),lensOK_all hp0 hok hz⟩,rfl⟩
  ·obtain rfl : i = x.n.data.length:=by omega
   obtain ⟨B3,d3,rfl,hd1,hd2⟩:=hOd.form
   have k8 : w'.cell? ⟨g,8,none⟩ = some (.slice B3 yn.data.length d3):=hB'.cell 8
   rw [hyl] at k8
   refine goL ?_
   refine xlda (t:=47) hB' rfl rfl ?_
   refine xsta hR rfl rfl (by kernel_rfl) rfl (one_cells (l:=ndC ⟨yn,.slice Aa x.n.attrs.length ca,.slice Ac x.n.acl.length cc,.slice B3 yn.data.length d3⟩) rfl) (fun w7 hB7 hF7=>?_)
   have hE7:=hN hE hF7 (by omega)
   refine goL ?_
   refine tretc2 rfl rfl rfl hB7 (by kernel_rfl) ⟨hE7,?_⟩
   rw [List.take_of_length_le (Nat.le_refl _)] at hok
   rw [e,if_pos hok]
   refine ⟨_,rfl,?_,⟨?_,?_,(hOd.fr hF7 fun b hb hbe=>by have:=(hOd.blk hb).1;omega).rw⟩⟩
   ·show yn = _
    rw [hn,List.take_of_length_le (Nat.le_refl _),List.drop_eq_nil_of_le (Nat.le_refl _),List.append_nil]
   ·have:=hx.a.ext hE7
    rw [hva] at this
    show Rw attC w7 _ yn.attrs
    rw [hat];exact this
   ·have:=hx.c.ext hE7
    rw [hvc] at this
    show Rw acC w7 _ yn.acl
    rw [hac];exact this
 ·intro H
  have hd2:=hx.d.ext hE02
  rw [hvd] at hd2
  refine goL ?_
  refine xcallE rfl rfl (cld_does w2 _ _ hd2 (by omega)) (fun r w3 h3=>?_)
  obtain ⟨hO3,hE3⟩:=h3
  obtain ⟨A3,c3,rfl,_,_⟩:=hO3.form
  have z2:=hE02.size
  have z3:=hE3.size
  refine goL ?_
  refine xstb (hB.ext hE3) rfl rfl (by kernel_rfl) rfl rfl (fun w4 hB4 hF4=>?_)
  have hB4' : Blk w4 g 47 (ndC ⟨x.n,x.va,x.vc,.slice A3 x.n.data.length c3⟩).toArray:=hB4
  have hE4 : Ext w w4:=hN (hE02.t hE3) hF4 (by omega)
  have hR4:=(Blk.ext hB2 hE3).fr hF4 (show ¬ g + 1 = g by omega)
  have hO4:=hO3.fr hF4 fun b hb=>by have:=(hO3.blk hb).1;show ¬ b = g;omega
  refine goL ?_
  refine tlabel ?_
  exact tweak (H (0,⟨x.n,x.va,x.vc,.slice A3 x.n.data.length c3⟩) w4 ⟨Nat.zero_le _,rfl,rfl,rfl,hB4',hR4,OwnZ.mono hO4 (by omega),hE4,rfl⟩) (sub ⟨rfl,rfl,rfl⟩)
theorem rc_nd {w : World} {g : Nat} {r : RcV} (hB : Blk w g 49 (rcC r).toArray) : ∀ j u,(ndC r.nd)[j]? = some u → w.cell? ⟨g,0 + 2 + j,none⟩ = some u:=fun j u h=>by
 rw [hB.cell]
 have hj : j < 12:=(List.getElem?_eq_some_iff.1 h).1
 rw [List.getElem?_toArray,Nat.zero_add,show 2 + j = j + 2 from Nat.add_comm _ _]
 show (ndC r.nd ++ [Value.int .i64 r.pos])[j]? = some u
 rw [List.getElem?_append_left hj]
 exact h
theorem full_bytes {n m : Nd} (h : fullN n = some m) (hb : bytesP n.data ≤ 1000000) : bytesP m.data ≤ 1000000 ∧ m.kind = n.kind ∧ m.data.length = n.data.length:=by
 unfold fullN at h
 split at h
 ·obtain rfl:=Option.some.inj h
  exact ⟨hb,rfl,rfl⟩
 ·split at h
  ·cases h
  ·rename_i h16
   split at h
   ·obtain rfl:=Option.some.inj h
    refine ⟨?_,rfl,List.length_map _⟩
    have : ∀ l : List Pce,bytesP (l.map (fulP 120)) ≤ 4000 * l.length:=fun l=>by
     induction l with
     | nil=>exact Nat.zero_le _
     | cons p r ih=>
      rw [List.map_cons,bytesP,List.length_cons]
      have : (fulP 120 p).data.length ≤ 4000:=by
       show (List.replicate _ _).length ≤ _
       rw [List.length_replicate];exact lenS_le _
      omega
    have:=this n.data
    show bytesP (n.data.map (fulP 120)) ≤ _
    omega
   ·cases h
theorem recmay_does (w : World) (r : RcV) (hr : NdIn w r.nd) (hb : bytesP r.nd.n.data ≤ 1000000) : Does Tryz.prog 53 #[.agg (rcC r).toArray] w fun v w'=>v = .bool (recOK r.p) ∧ Ext w w':=by
 refine does1 Tryz.func53 rfl (by kernel_rfl) ?_
 obtain ⟨pth,ld,nd,pos⟩:=r
 dsimp only at hr hb
 have hN : ∀ {a b c : World} {g : Nat},Ext a b → Fr (· = g) b c → a.heap.size ≤ g → Ext a c:=fun h1 h2 hg=>h1.trans h2 fun j hj e=>absurd hj (by omega)
 have eR : recOK (RcV.p ⟨pth,ld,nd,pos⟩) = (mayP pth && decide (0 ≤ ld) && decide (ld < 100) && decide (0 ≤ pos) && decide (pos ≤ 400000) &&
  (if nd.n = ndZ then decide (pos = 0) else match fullN nd.n with
  | none=>false
  | some n=>nodeOK n && (decide (pos = 0) || (decide (nd.n.kind = 2) && decide (nd.n.data ≠ []))))):=rfl
 rw [eR]
 refine goL ?_
 refine xbox rfl (fun w1 hB1 hE1 hs1=>?_)
 obtain ⟨g,hg⟩ : ∃ g,g = w.heap.size:=⟨_,rfl⟩
 rw [← hg] at hB1 hs1 ⊢
 have hB1 : Blk w1 g 49 (rcC ⟨pth,ld,nd,pos⟩).toArray:=hB1
 have k0 : w1.cell? ⟨g,0,none⟩ = some (.string (su pth)):=hB1.cell 0
 refine goL ?_
 refine xcallE rfl rfl (may_does w1 pth) (fun v w2 h2=>?_)
 obtain ⟨rfl,hE2⟩:=h2
 have hB2:=hB1.ext hE2
 have hE02:=hE1.t hE2
 have k1 : w2.cell? ⟨g,1,none⟩ = some (.int .i64 ld):=hB2.cell 1
 have k14 : w2.cell? ⟨g,14,none⟩ = some (.int .i64 pos):=hB2.cell 14
 by_cases hall : mayP pth = true ∧ 0 ≤ ld ∧ ld < 100 ∧ 0 ≤ pos ∧ pos ≤ 400000
 ·obtain ⟨h1,h2,h3,h4,h5⟩:=hall
  have e1 : ∀ b : Bool,(mayP pth && decide (0 ≤ ld) && decide (ld < 100) && decide (0 ≤ pos) && decide (pos ≤ 400000) && b) = b:=fun b=>by
   rw [h1,decide_eq_true h2,decide_eq_true h3,decide_eq_true h4,decide_eq_true h5];rfl
  rw [e1,h1]
  refine goL ?_
  refine xldz (cs:=ndC nd) rfl rfl (rc_nd hB2) ?_
  refine xcallE rfl rfl (rzero_does w2 nd (hr.ext hE02)) (fun v w3 h3=>?_)
  obtain ⟨rfl,hE3⟩:=h3
  have hB3:=hB2.ext hE3
  have hE03:=hE02.t hE3
  by_cases hz : nd.n = ndZ
  ·have k14 : w3.cell? ⟨g,14,none⟩ = some (.int .i64 pos):=hB3.cell 14
   rw [decide_eq_true hz,if_pos hz]
   refine goL ?_
   refine xeqb rfl rfl (fun q hq=>?_)
   refine goL ?_
   refine tret1 rfl rfl ⟨?_,hE03⟩
   congr 1
   rw [Bool.eq_iff_iff,hq,decide_eq_true_eq]
  ·rw [decide_eq_false hz,if_neg hz]
   refine goL ?_
   refine xldz (cs:=ndC nd) rfl rfl (rc_nd hB3) ?_
   refine xcallE rfl rfl (full_does w3 nd (hr.ext hE03)) (fun v w4 h4=>?_)
   obtain ⟨hE4,h4⟩:=h4
   have hB4:=hB3.ext hE4
   have hE04:=hE03.t hE4
   cases hf : fullN nd.n with
   | none=>
    exact y18
   | some m=>
    rw [hf] at h4
    obtain ⟨⟨xn,xa,xc,xd⟩,rfl,hxm,hxi⟩:=h4
    dsimp only at hxm
    subst hxm
    obtain ⟨A1,c1,e1,_,_,_⟩:=hxi.a.op attC_len
    obtain ⟨A2,c2,e2,_,_,_⟩:=hxi.c.op acC_len
    obtain ⟨A3,c3,e3,_,_,_⟩:=hxi.d.op pcC_len
    dsimp only at e1 e2 e3
    subst e1;subst e2;subst e3
    obtain ⟨hfb,hfk,hfl⟩:=full_bytes hf hb
    refine goL ?_
    refine xalloc (z:=.agg (ndC ndZV).toArray) (by kernel_rfl) (fun w5 hB5 hE5 hs5=>?_)
    refine xsta hB5 rfl rfl (by kernel_rfl) rfl (one_cells (l:=ndC ⟨xn,.slice A1 xn.attrs.length c1,.slice A2 xn.acl.length c2,.slice A3 xn.data.length c3⟩) rfl) (fun w6 hB6 hF6=>?_)
    have hE6:=hN hE5 hF6 (Nat.le_refl _)
    obtain ⟨g3,hg3⟩ : ∃ g3,g3 = w4.heap.size:=⟨_,rfl⟩
    rw [← hg3] at hB6 ⊢
    refine goL ?_
    refine xlda (t:=47) hB6 rfl rfl ?_
    refine goL ?_
    refine xcallE rfl rfl (nodemay_does w6 _ (hxi.ext hE6) hfb) (fun v w7 h7=>?_)
    obtain ⟨rfl,hE7⟩:=h7
    have hB7:=(hB4.ext hE6).ext hE7
    have hX7:=hB6.ext hE7
    have hE07:=(hE04.t hE6).t hE7
    have k14 : w7.cell? ⟨g,14,none⟩ = some (.int .i64 pos):=hB7.cell 14
    have q0 : w7.cell? ⟨g3,0,none⟩ = some (.int .i64 xn.kind):=hX7.cell 0
    have q8 : w7.cell? ⟨g3,8,none⟩ = some (.slice A3 xn.data.length c3):=hX7.cell 8
    have hdn : (nd.n.data ≠ []) ↔ 0 < xn.data.length:=by rw [hfl,List.length_pos_iff]
    rw [← hfk,decide_eq_decide.2 hdn]
    dsimp only
    cases hok : nodeOK xn with
    | false=>
     refine goL ?_
     exact tret1 rfl rfl ⟨rfl,hE07⟩
    | true=>
     by_cases hp : pos = 0
     ·rw [decide_eq_true hp]
      refine goL ?_
      exact tret1 rfl rfl ⟨rfl, hE07⟩
     ·rw [decide_eq_false hp]
      by_cases hk : xn.kind = 2
      ·rw [decide_eq_true hk]
       by_cases hl : 0 < xn.data.length
       ·rw [decide_eq_true hl]
        refine goL ?_
        exact tret1 rfl rfl ⟨rfl, hE07⟩
       ·rw [decide_eq_false hl]
        refine goL ?_
        exact tret1 rfl rfl ⟨rfl, hE07⟩
      ·rw [decide_eq_false hk]
       refine goL ?_
       exact tret1 rfl rfl ⟨rfl, hE07⟩
 ·have e0 : ∀ b : Bool,(mayP pth && decide (0 ≤ ld) && decide (ld < 100) && decide (0 ≤ pos) && decide (pos ≤ 400000) && b) = false:=fun b=>by
   cases hc : (mayP pth && decide (0 ≤ ld) && decide (ld < 100) && decide (0 ≤ pos) && decide (pos ≤ 400000)) with
   | false=>rfl
   | true=>
    simp only [Bool.and_eq_true,decide_eq_true_eq] at hc
    exact absurd ⟨hc.1.1.1.1,hc.1.1.1.2,hc.1.1.2,hc.1.2,hc.2⟩ hall
  rw [e0]
  cases h1 : mayP pth with
  | false=>
   exact y13
  | true=>
   by_cases h2 : 0 ≤ ld
   ·by_cases h3 : ld < 100
    ·by_cases h4 : 0 ≤ pos
     ·have h5 : ¬ pos ≤ 400000:=fun h5=>hall ⟨h1,h2,h3,h4,h5⟩
      exact y13
     ·exact y13
    ·exact y13
   ·exact y13
end
end Go.Proofs.YtbpmlbjapapoaaaGreatDoor.Eng
