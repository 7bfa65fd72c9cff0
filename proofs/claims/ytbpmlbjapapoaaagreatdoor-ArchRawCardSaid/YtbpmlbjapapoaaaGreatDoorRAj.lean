/-
  Parts of the proof: Aj.
-/
import Derived.Test.YtbpmlbjapapoaaaGreatDoorRAi
import Derived.Test.YtbpmlbjapapoaaaGreatDoorRB0b
set_option maxRecDepth 100000
set_option maxHeartbeats 64000000
namespace Go.Proofs.YtbpmlbjapapoaaaGreatDoor.Eng
open Go.RowKit
section
open Go.RowKit Go.Lib
attribute [local irreducible] xs T
theorem digF_from : ∀ (s : Str) (n : Nat),Lib.decFrom n s = digF n s
 | [],_=>rfl
 | c :: r,n=>by
  rw [Lib.decFrom,digF]
  unfold Lib.digitVal
  by_cases h : 48 ≤ c.toNat ∧ c.toNat ≤ 57
  ·rw [if_pos h,if_pos h]
   show Lib.decFrom (n * 10 + (c.toNat - 48)) r = _
   rw [digF_from r,Nat.mul_comm]
  ·rw [if_neg h,if_neg h]
theorem lenS_atoi {s : Str} (h : lenS s ≠ 0) : s.length ≤ 4 ∧ Lib.atoi s = some (lenS s : Int):=by
 unfold lenS at h ⊢
 by_cases hc : 4 < s.length ∨ s.head? = some 48
 ·rw [if_pos hc] at h;exact absurd rfl h
 rw [if_neg hc] at h ⊢
 refine ⟨by omega,?_⟩
 cases hd : digF 0 s with
 | none=>rw [hd] at h;exact absurd rfl h
 | some n=>
  rw [hd] at h
  dsimp only at h ⊢
  have h4 : ¬ 4000 < n:=fun hh=>by rw [if_pos hh] at h;exact h rfl
  rw [if_neg h4] at h ⊢
  cases s with
  | nil=>
   have:=Option.some.inj hd
   exact absurd this.symm h
  | cons c r=>
   have hg : 48 ≤ c.toNat ∧ c.toNat ≤ 57:=Classical.byContradiction fun hh=>by
    unfold digF at hd
    rw [if_neg hh] at hd
    cases hd
   have h1 : (c == 45) = false:=by
    rw [beq_eq_false_iff_ne]
    rintro rfl
    exact absurd hg.1 (by decide)
   have h2 : (c == 43) = false:=by
    rw [beq_eq_false_iff_ne]
    rintro rfl
    exact absurd hg.1 (by decide)
   have e0 : Lib.atoi (c :: r) = if (c == 45) = true then (Lib.decNat r).map fun (m : Nat)=>-(m : Int) else if (c == 43) = true then (Lib.decNat r).map fun (m : Nat)=>(m : Int) else (Lib.decNat (c :: r)).map fun (m : Nat)=>(m : Int):=rfl
   have e1 : Lib.decNat (c :: r) = Lib.decFrom 0 (c :: r):=rfl
   rw [e0,h1,h2,if_neg Bool.false_ne_true,if_neg Bool.false_ne_true,e1,digF_from,hd]
   rfl
theorem atoi_does (w : World) (s : Str) (h : lenS s ≠ 0) : Does Tryz.prog 84 #[.string (su s)] w fun r w'=>r = .tuple #[.int .i64 (lenS s : Int),.nilIface] ∧ Ext w w':=by
 obtain ⟨h1,h2⟩:=lenS_atoi h
 refine Calls.mono (Any.strconv_Atoi laysAtoi (su s) (lenS s : Int) (by rw [su_size];omega) h2 w) fun e w' ⟨he,t,hw⟩=>?_
 refine ⟨_,he,rfl,?_⟩
 subst hw
 exact ⟨rfl,rfl,rfl,by rw [Lib.bytesWorld_size];omega,fun j hj _=>Lib.bytesWorld_at_old w _ t j hj⟩
section
variable {hs : List Nat} {H : World → Prop} {full : Array Oper} {K : Env → World → Prop} {rest : List Oper} {env : Env} {w : World} {d : Tmp} {ty : TypeId} {pos : String} {af : Array Edge}
theorem xneI {t yt : TypeId} {x : Operand} {ms : Array (String × TypeId)} (hu : Tryz.prog.underlying t = some (.interface ms)) (hx : evo env x = some .nilIface) (h : xs Tryz.prog isI isS hs H full K rest ((d,.bool false) :: env) w) :
  xs Tryz.prog isI isS hs H full K (⟨some d,.binOp .neq t x (.const .nilIface) yt,ty,pos,af,none⟩ :: rest) env w:=by
 refine x_bin hx (vy:=.nilIface) rfl ?_ (fun w'=>?_) h
 ·cases x <;> rfl
 ·have hq : ∀ d : Nat,(Op.equalIn (d + 1) t .nilIface .nilIface).run Tryz.prog w' = .ok true w':=fun d=>by simp [Op.equalIn,run_underlying hu]
  have h1:=hq 9999
  show ((do let b ← Op.equalIn 10000 t .nilIface .nilIface;pure (Value.bool (!b)) : Sem Value)).run Tryz.prog w' = _
  simp [h1]
theorem rowcut {A : Option Addr} {n c z l h : Nat} {vs : List Value} (hr : Row w (.slice A n c) n vs) (h1 : l ≤ h) (h2 : h ≤ n) :
  Row w (.slice (if c = l then A else A.map (·.add (l * z))) (h - l) (c - l)) (h - l) ((vs.drop (l * z)).take ((h - l) * z)):=by
 obtain ⟨A',c',e,h3,h4,h5⟩:=hr
 injection e with e1 e2 e3
 subst e1;subst e3
 refine ⟨_,_,rfl,by omega,by omega,fun hp=>?_⟩
 obtain ⟨b,o,rfl,hb,hc⟩:=h5 (by omega)
 refine ⟨b,o + l * z,by rw [if_neg (by omega)];simp [Addr.add_lit],hb,fun j u hu=>?_⟩
 have hj : j < (h - l) * z:=by
  have:=(List.getElem?_eq_some_iff.1 hu).1
  rw [List.length_take] at this
  omega
 rw [List.getElem?_take_of_lt hj,List.getElem?_drop] at hu
 rw [Nat.add_assoc]
 exact hc _ u hu
theorem xslr2 {t : TypeId} {x lo hi : Operand} {k k' : IntKind} {A : Option Addr} {n c z : Nat} {vs : List Value} {jl jh : Int} (l h : Nat) (hz : es t = some z) (hx : evo env x = some (.slice A n c)) (hr : Row w (.slice A n c) n vs) (hlo : evo env lo = some (.int k jl)) (hhi : evo env hi = some (.int k' jh)) (el : jl = l) (eh : jh = h) (h1 : l ≤ h) (h2 : h ≤ n)
  (hc : ∀ A',Row w (.slice A' (h - l) (c - l)) (h - l) ((vs.drop (l * z)).take ((h - l) * z)) → xs Tryz.prog isI isS hs H full K rest ((d,.slice A' (h - l) (c - l)) :: env) w) :
  xs Tryz.prog isI isS hs H full K (⟨some d,.slice t x (some lo) (some hi) none,ty,pos,af,none⟩ :: rest) env w:=by
 obtain ⟨e,i,hu,hi',hsz⟩:=es_spec hz
 subst el;subst eh
 have hcc : n ≤ c:=by obtain ⟨A',c',e,h3,h4,h5⟩:=hr;injection e with e1 e2 e3;omega
 refine x_gen rfl (by simp [opsOK,Op.operands,hx,hlo,hhi]) ⟨_,fun w'=>?_,hc (if c = l then A else A.map (·.add (l * z))) (rowcut hr h1 h2)⟩
 have:=run_sl (A:=A) (n:=n) (c:=c) (lo:=some (.int k l)) (hi:=some (.int k' h)) (l:=l) (h:=h) hu hi' (.inr ⟨k,rfl⟩) (.inr ⟨k',rfl⟩) h1 (by omega) w'
 simp [execOp,ev_of hx,ev_of hlo,ev_of hhi,this,hsz]
theorem bs_cut (s : Str) (l n : Nat) : ((bs s).drop (l * 1)).take (n * 1) = bs ((s.drop l).take n):=by
 unfold bs strCells su
 simp [List.map_take,List.map_drop]
theorem bs_map (s : Str) : bs s = (s.map fun x=>(x.toNat : Int)).map (Value.int .u8):=by
 unfold bs strCells su
 simp
theorem xcbr {x : Operand} {A : Option Addr} {n c : Nat} {r : Str} (hx : evo env x = some (.slice A n c)) (hR : Row w (.slice A n c) r.length (bs r))
  (h : xs Tryz.prog isI isS hs H full K rest ((d,.string (su r)) :: env) w) (hm1 : memb hs (some d) = false:=by rfl) : xs Tryz.prog isI isS hs H full K (⟨some d,.convert 29 9 x,ty,pos,af,none⟩ :: rest) env w:=by
 have e : strOfNums (r.map fun x=>(x.toNat : Int)) = su r:=by
  unfold strOfNums su
  rw [List.map_map]
  congr 2
  conv=>rhs;rw [← List.map_id r]
  refine List.map_congr_left fun b _=>?_
  show UInt8.ofNat (Int.toNat (b.toNat : Int)) = b
  simp
 refine xcbs (zs:=r.map fun x=>(x.toNat : Int)) hx ?_ (by rw [e];exact h) hm1
 unfold BRow
 rw [List.length_map,← bs_map]
 exact hR
end
structure FilI (w : World) (r : RcV) (whole : Str) (g : Nat) (y : Nat × Nat × List Pce × NdV) (w' : World) : Prop where
 le : y.1 ≤ r.nd.n.data.length
 at_ : y.2.1 ≤ 400000 + 4000 * y.1
 ln : y.2.2.1.length = y.1
 go : filP whole r.pos.toNat r.nd.n.data = (filP whole y.2.1 (r.nd.n.data.drop y.1)).map (y.2.2.1 ++ ·)
 n : y.2.2.2.n = { r.nd.n with data:=y.2.2.1 ++ r.nd.n.data.drop y.1 }
 B : Blk w' (g + 2) 47 (ndC y.2.2.2).toArray
 R : Blk w' (g + 1) 47 (ndC ndZV).toArray
 a : Ow attC 2 w' (g + 3) 78 y.2.2.2.va y.2.2.2.n.attrs
 c : Ow acC 3 w' (g + 3) 80 y.2.2.2.vc y.2.2.2.n.acl
 d : Ow pcC 2 w' (g + 3) 65 y.2.2.2.vd y.2.2.2.n.data
 ext : Ext w w'
def FilR (w : World) (r : RcV) (whole : Str) (v : Value) (w' : World) : Prop:=Ext w w' ∧ match filP whole r.pos.toNat r.nd.n.data with
 | some d=>∃ x' : NdV,v = .tuple #[.agg (ndC x').toArray,.bool true] ∧ x'.n = { r.nd.n with data:=d } ∧ NdO w' w.heap.size x'
 | none=>v = .tuple #[.agg (ndC ndZV).toArray,.bool false]
theorem set_app {α : Type} {a l : List α} {i : Nat} {p q : α} (ha : a.length = i) (h : l[i]? = some p) : (a ++ l.drop i).set i q = (a ++ [q]) ++ l.drop (i + 1):=by
 have hi : i < l.length:=(List.getElem?_eq_some_iff.1 h).1
 subst ha
 rw [List.drop_eq_getElem_cons hi,List.set_append_right _ _ (Nat.le_refl _),Nat.sub_self,List.set_cons_zero,List.append_assoc]
 rfl
theorem filled_does (w : World) (r : RcV) (vw : Value) (whole : Str) (hr : NdIn w r.nd) (hL : NdL r.nd.n) (hok : lensOK r.nd.n.data = true) (hp0 : 0 ≤ r.pos) (hp1 : r.pos ≤ 400000) (hW : Row w vw whole.length (bs whole)) (hwl : whole.length ≤ 1000000000) : Does Tryz.prog 54 #[.agg (rcC r).toArray,vw] w (FilR w r whole):=by
 refine does2 Tryz.func54 rfl (by kernel_rfl) ?_
 have hN : ∀ {a b c : World} {g : Nat},Ext a b → Fr (· = g) b c → a.heap.size ≤ g → Ext a c:=fun h1 h2 hg=>h1.trans h2 fun j hj e=>absurd hj (by omega)
 obtain ⟨pth,ld,x,pos⟩:=r
 unfold FilR
 dsimp only at hr hL hok hp0 hp1 ⊢
 obtain ⟨Aa,ca,hva,_,_,_⟩:=hr.a.op attC_len
 obtain ⟨Ac,cc,hvc,_,_,_⟩:=hr.c.op acC_len
 obtain ⟨Ad,cd,hvd,_,_,_⟩:=hr.d.op pcC_len
 obtain ⟨Aw,cw,rfl,hw1,hw2,hw3⟩:=hW
 have hW : Row w (.slice Aw whole.length cw) whole.length (bs whole):=⟨Aw,cw,rfl,hw1,hw2,hw3⟩
 refine goL ?_
 refine xbox rfl (fun w1 hB1 hE1 hs1=>?_)
 obtain ⟨g,hg⟩ : ∃ g,g = w.heap.size:=⟨_,rfl⟩
 rw [← hg] at hB1 hs1 ⊢
 have hB1 : Blk w1 g 49 (rcC ⟨pth,ld,x,pos⟩).toArray:=hB1
 refine goL ?_
 refine xalloc (z:=.agg (ndC ndZV).toArray) (by kernel_rfl) (fun w2 hB2 hE2 hs2=>?_)
 rw [hs1] at hB2 hs2 ⊢
 have hE02 : Ext w w2:=hE1.t hE2
 refine goL ?_
 refine tscope1 (α:=Nat × Nat × List Pce × NdV) 0 rfl (fun y=>[(1,.slice Aw whole.length cw),(4,.pointer (some ⟨g + 1,0,none⟩)),(6,.pointer (some ⟨g + 2,0,none⟩)),(7,.int .i64 (y.2.1 : Int)),(8,.int .i64 (y.1 : Int))]) (FilI w ⟨pth,ld,x,pos⟩ whole g) (fun y=>x.n.data.length - y.1) ?_ ?_
 ·rintro ⟨i,at_,dn,⟨yn,ya,yc,yd⟩⟩ w' h
  obtain ⟨hi,hat,hdn,hgo,hn,hB',hR,hOa,hOc,hOd,hE⟩:=h
  dsimp only at hi hat hdn hgo hn hB' hR hOa hOc hOd ⊢
  have hyl : yn.data.length = x.n.data.length:=by rw [hn];simp;omega
  have hld:=hL.d
  obtain ⟨A1,c1,rfl,_,_⟩:=hOa.form
  obtain ⟨A2,c2,rfl,_,_⟩:=hOc.form
  by_cases hlt : i < x.n.data.length
  ·obtain ⟨g3,c3,rfl,hg3,hg3l,_,_⟩:=hOd.go (by omega)
   have hlt' : i < yn.data.length:=by omega
   obtain ⟨A,c,e3,_,_,hA⟩:=hOd.rw.op pcC_len
   injection e3 with e3 _ _
   subst e3
   obtain ⟨b,o,p,e4,_,hp,_,hcell⟩:=hA.at_ hlt'
   injection e4 with e4
   injection e4 with e4 e5 _
   subst e4;subst e5
   have hpx : x.n.data[i]? = some p:=by
    rw [hn] at hp
    have : (dn ++ x.n.data.drop i)[i]? = some p:=hp
    rw [List.getElem?_append_right (by omega),hdn,Nat.sub_self] at this
    simpa using this
   have hz : lenS p.data ≠ 0:=by
    have:=List.all_eq_true.1 hok p (List.mem_of_getElem? hpx)
    exact of_decide_eq_true this
   have hll:=lenS_le p.data
   have hdr : x.n.data.drop i = p :: x.n.data.drop (i + 1):=by
    rw [List.drop_eq_getElem_cons hlt];congr 1;exact (List.getElem?_eq_some_iff.1 hpx).2
   rw [hdr,filP] at hgo
   have k8w : w'.cell? ⟨g + 2,8,none⟩ = some (.slice (some ⟨g3,0,none⟩) yn.data.length c3):=hB'.cell 8
   have k1w : w'.cell? ⟨g3,0 + i * 2 + 1,none⟩ = some (.string (su p.data)):=hcell 1 _ rfl
   refine gz13 ?_
   refine xcallE rfl rfl (atoi_does w' p.data hz) (fun v w3 h3=>?_)
   obtain ⟨rfl,hE3⟩:=h3
   have hB3:=hB'.ext hE3
   have hR3:=hR.ext hE3
   have hOa3:=hOa.ext hE3
   have hOc3:=hOc.ext hE3
   have hOd3:=hOd.ext hE3
   have hE03:=hE.t hE3
   have z3:=hE3.size
   by_cases hfit : at_ + lenS p.data ≤ whole.length
   ·rw [if_pos hfit] at hgo
    have hlw : (at_ : Int) ≤ (whole.length : Int) - (lenS p.data : Int):=by omega
    have k8 : w3.cell? ⟨g + 2,8,none⟩ = some (.slice (some ⟨g3,0,none⟩) yn.data.length c3):=hB3.cell 8
    have k8d : w3.drew.cell? ⟨g + 2,8,none⟩ = some (.slice (some ⟨g3,0,none⟩) yn.data.length c3):=(hB3.ext (Fr.drew noneB w3)).cell 8
    have hEd : Ext w w3.drew:=hE03.t (Fr.drew _ w3)
    have hWd:=Row.ext hW hEd
    repeat' (first | refine xneI Tryz.underlying131 rfl ?_ | refine xizq i (0 + i * 2) rfl rfl rfl rfl rfl hlt' ?_ | refine go1L ?_ | fail)
    refine xslr2 at_ (at_ + lenS p.data) rfl rfl hWd rfl rfl rfl (by omega) (by omega) hfit (fun A' hA'=>?_)
    rw [bs_cut,show at_ + lenS p.data - at_ = lenS p.data from by omega] at hA'
    rw [show at_ + lenS p.data - at_ = lenS p.data from by omega]
    have hcl : ((whole.drop at_).take (lenS p.data)).length = lenS p.data:=by rw [List.length_take,List.length_drop];omega
    refine xcbr (r:=(whole.drop at_).take (lenS p.data)) rfl (by rw [hcl];exact hA') ?_
    refine gz13 ?_
    refine xstc pcC_len (x':=⟨p.pos,(whole.drop at_).take (lenS p.data)⟩) i 1 (hOd3.ext (Fr.drew _ w3)) rfl rfl (by omega) (by omega) (by kernel_rfl) rfl hp rfl (fun w4 hO4 hF4=>?_)
    have hB4:=(hB3.ext (Fr.drew noneB w3)).fr hF4 (show ¬ g + 2 = g3 by omega)
    have hR4:=(hR3.ext (Fr.drew noneB w3)).fr hF4 (show ¬ g + 1 = g3 by omega)
    have ha4:=(hOa3.ext (Fr.drew noneB w3)).fr hF4 fun b hb e=>by
     have e : b = g3:=e
     subst e
     exact Ow.apart hOa hOd (by decide) hb rfl
    have hc4:=(hOc3.ext (Fr.drew noneB w3)).fr hF4 fun b hb e=>by
     have e : b = g3:=e
     subst e
     exact Ow.apart hOc hOd (by decide) hb rfl
    have hset : yn.data.set i ⟨p.pos,(whole.drop at_).take (lenS p.data)⟩ = (dn ++ [⟨p.pos,(whole.drop at_).take (lenS p.data)⟩]) ++ x.n.data.drop (i + 1):=by
     rw [hn]
     exact set_app hdn hpx
    have hlen4 : (yn.data.set i ⟨p.pos,(whole.drop at_).take (lenS p.data)⟩).length = yn.data.length:=List.length_set
    have hO4' : Ow pcC 2 w4 (g + 3) 65 (.slice (some ⟨g3,0,none⟩) yn.data.length c3) (yn.data.set i ⟨p.pos,(whole.drop at_).take (lenS p.data)⟩):=hO4
    refine goL ?_
    exact tgoto rfl ⟨_,(by show x.n.data.length - (i + 1) < x.n.data.length - i;omega),rfl,(i + 1,at_ + lenS p.data,dn ++ [⟨p.pos,(whole.drop at_).take (lenS p.data)⟩],⟨{ yn with data:=yn.data.set i ⟨p.pos,(whole.drop at_).take (lenS p.data)⟩ },.slice A1 yn.attrs.length c1,.slice A2 yn.acl.length c2,.slice (some ⟨g3,0,none⟩) yn.data.length c3⟩),sub ⟨rfl,rfl,rfl,ieq (by dsimp only;omega),ieq (by dsimp only;omega)⟩,⟨hlt,(by show at_ + lenS p.data ≤ 400000 + 4000 * (i + 1);omega),by simp [hdn],by rw [hgo,Option.map_map];congr 1;funext l;simp,(by show ({ yn with data:=yn.data.set i _ } : Nd) = _;rw [hset,hn]),hB4,hR4,ha4,hc4,(by show Ow pcC 2 w4 (g + 3) _ _ _;exact hO4'),hN hEd hF4 (by omega)⟩,rfl⟩
   ·rw [if_neg hfit] at hgo
    have hlw : ¬ (at_ : Int) ≤ (whole.length : Int) - (lenS p.data : Int):=by omega
    repeat' (first | refine xneI Tryz.underlying131 rfl ?_ | refine go1L ?_ | fail)
    refine xbd (cells:=(ndC ndZV).toArray) rfl (by kernel_rfl) ?_
    refine xsta hR3 rfl rfl (by kernel_rfl) rfl (by kernel_rfl) (fun w7 hB7 hF7=>?_)
    refine goL ?_
    refine tretc2 rfl rfl rfl hB7 (by kernel_rfl) ⟨hN hE03 hF7 (by omega),?_⟩
    rw [hgo];rfl
  ·obtain rfl : i = x.n.data.length:=by omega
   rw [List.drop_eq_nil_of_le (Nat.le_refl _),filP] at hgo
   rw [List.drop_eq_nil_of_le (Nat.le_refl _),List.append_nil] at hn
   have hgo : filP whole pos.toNat x.n.data = some dn:=by rw [hgo];simp
   obtain ⟨B3,d3,rfl,hd1,hd2⟩:=hOd.form
   have k8 : w'.cell? ⟨g + 2,8,none⟩ = some (.slice B3 yn.data.length d3):=hB'.cell 8
   rw [hyl] at k8
   refine goL ?_
   refine xlda (t:=47) hB' rfl rfl ?_
   refine xsta hR rfl rfl (by kernel_rfl) rfl (one_cells (l:=ndC ⟨yn,.slice A1 yn.attrs.length c1,.slice A2 yn.acl.length c2,.slice B3 yn.data.length d3⟩) rfl) (fun w7 hB7 hF7=>?_)
   have ne : ∀ b,g + 3 ≤ b → ¬ b = g + 1:=fun b hb=>by omega
   refine goL ?_
   refine tretc2 rfl rfl rfl hB7 (by kernel_rfl) ⟨hN hE hF7 (by omega),?_⟩
   rw [hgo]
   exact ⟨_,rfl,hn,⟨OwnZ.mono (hOa.fr hF7 fun b hb=>ne b (hOa.blk hb).1) (by omega),OwnZ.mono (hOc.fr hF7 fun b hb=>ne b (hOc.blk hb).1) (by omega),OwnZ.mono (OwnZ.fr hOd hF7 fun b hb=>ne b (OwnZ.blk hOd hb).1) (by omega)⟩⟩
 ·intro H
  have hB2':=hB1.ext hE2
  refine goL ?_
  refine xldz (cs:=ndC x) rfl rfl (rc_nd hB2') ?_
  refine xalloc (z:=.agg (ndC ndZV).toArray) (by kernel_rfl) (fun w3 hB3 hE3 hs3=>?_)
  rw [hs2] at hB3 hs3 ⊢
  refine xsta hB3 rfl rfl (by kernel_rfl) rfl (one_cells (one_nd hr)) (fun w4 hB4 hF4=>?_)
  have hE24 : Ext w2 w4:=hN hE3 hF4 (by omega)
  have hE4 : Ext w w4:=hE02.t hE24
  have hRc4:=hB2'.ext hE24
  have hR4 : Blk w4 (g + 1) 47 (ndC ndZV).toArray:=Blk.ext hB2 hE24
  have z4:=hF4.size
  have hX4:=hr.ext hE4
  have hB4' : Blk w4 (g + 1 + 1) 47 (ndC x).toArray:=hB4
  have k5 : w4.cell? ⟨g + 1 + 1,5,none⟩ = some (.slice Aa x.n.attrs.length ca):=by rw [← hva];exact hB4'.cell 5
  have ha4:=hX4.a
  rw [hva] at ha4
  refine goL ?_
  refine xcallE rfl rfl (cla_does w4 _ _ ha4 hL.a) (fun v w5 h5=>?_)
  obtain ⟨hOa5,hE5⟩:=h5
  obtain ⟨A1,c1,rfl,_,_⟩:=hOa5.form
  have z5:=hE5.size
  refine goL ?_
  refine xstb (hB4'.ext hE5) rfl rfl (by kernel_rfl) rfl rfl (fun w6 hB6 hF6=>?_)
  have hB6' : Blk w6 (g + 1 + 1) 47 (ndC ⟨x.n,.slice A1 x.n.attrs.length c1,x.vc,x.vd⟩).toArray:=hB6
  have hE6 : Ext w w6:=hN (hE4.t hE5) hF6 (by omega)
  have hR6:=(hR4.ext hE5).fr hF6 (show ¬ g + 1 = g + 1 + 1 by omega)
  have hRc6:=(hRc4.ext hE5).fr hF6 (show ¬ g = g + 1 + 1 by omega)
  have hOa6:=hOa5.fr hF6 fun b hb=>by have:=(hOa5.blk hb).1;show ¬ b = g + 1 + 1;omega
  have z6:=hF6.size
  have k6 : w6.cell? ⟨g + 1 + 1,6,none⟩ = some (.slice Ac x.n.acl.length cc):=by rw [← hvc];exact hB6'.cell 6
  have hc6:=hr.c.ext hE6
  rw [hvc] at hc6
  refine goL ?_
  refine xcallE rfl rfl (clc_does w6 _ _ hc6 hL.c) (fun v w7 h7=>?_)
  obtain ⟨hOc7,hE7⟩:=h7
  obtain ⟨A2,c2,rfl,_,_⟩:=hOc7.form
  have z7:=hE7.size
  refine goL ?_
  refine xstb (hB6'.ext hE7) rfl rfl (by kernel_rfl) rfl rfl (fun w8 hB8 hF8=>?_)
  have hB8' : Blk w8 (g + 1 + 1) 47 (ndC ⟨x.n,.slice A1 x.n.attrs.length c1,.slice A2 x.n.acl.length c2,x.vd⟩).toArray:=hB8
  have hE8 : Ext w w8:=hN (hE6.t hE7) hF8 (by omega)
  have hR8:=(hR6.ext hE7).fr hF8 (show ¬ g + 1 = g + 1 + 1 by omega)
  have hRc8:=(hRc6.ext hE7).fr hF8 (show ¬ g = g + 1 + 1 by omega)
  have hOc8:=hOc7.fr hF8 fun b hb=>by have:=(hOc7.blk hb).1;show ¬ b = g + 1 + 1;omega
  have hOa8:=(hOa6.ext hE7).fr hF8 fun b hb=>by have:=((hOa6.ext hE7).blk hb).1;show ¬ b = g + 1 + 1;omega
  have z8:=hF8.size
  have k8 : w8.cell? ⟨g + 1 + 1,8,none⟩ = some (.slice Ad x.n.data.length cd):=by rw [← hvd];exact hB8'.cell 8
  have hd8:=hr.d.ext hE8
  rw [hvd] at hd8
  refine goL ?_
  refine xcallE rfl rfl (cld_does w8 _ _ hd8 hL.d) (fun v w9 h9=>?_)
  obtain ⟨hOd9,hE9⟩:=h9
  obtain ⟨A3,c3,rfl,_,_⟩:=hOd9.form
  have z9:=hE9.size
  refine goL ?_
  refine xstb (hB8'.ext hE9) rfl rfl (by kernel_rfl) rfl rfl (fun w10 hB10 hF10=>?_)
  have hB10' : Blk w10 (g + 2) 47 (ndC ⟨x.n,.slice A1 x.n.attrs.length c1,.slice A2 x.n.acl.length c2,.slice A3 x.n.data.length c3⟩).toArray:=hB10
  have hE10 : Ext w w10:=hN (hE8.t hE9) hF10 (by omega)
  have hR10:=(hR8.ext hE9).fr hF10 (show ¬ g + 1 = g + 1 + 1 by omega)
  have hRc10:=(hRc8.ext hE9).fr hF10 (show ¬ g = g + 1 + 1 by omega)
  have hOd10:=hOd9.fr hF10 fun b hb=>by have:=(hOd9.blk hb).1;show ¬ b = g + 1 + 1;omega
  have hOa10:=(hOa8.ext hE9).fr hF10 fun b hb=>by have:=((hOa8.ext hE9).blk hb).1;show ¬ b = g + 1 + 1;omega
  have hOc10:=(hOc8.ext hE9).fr hF10 fun b hb=>by have:=((hOc8.ext hE9).blk hb).1;show ¬ b = g + 1 + 1;omega
  have k14 : w10.cell? ⟨g,14,none⟩ = some (.int .i64 pos):=hRc10.cell 14
  refine goL ?_
  refine tlabel ?_
  exact tweak (H (0,pos.toNat,[],⟨x.n,.slice A1 x.n.attrs.length c1,.slice A2 x.n.acl.length c2,.slice A3 x.n.data.length c3⟩) w10 ⟨Nat.zero_le _,(by show pos.toNat ≤ _;omega),rfl,by simp,rfl,hB10',hR10,OwnZ.mono hOa10 (by omega),OwnZ.mono hOc10 (by omega),OwnZ.mono hOd10 (by omega),hE10⟩) (sub ⟨rfl,rfl,rfl,ieq (by dsimp only;omega),rfl⟩)
end
end Go.Proofs.YtbpmlbjapapoaaaGreatDoor.Eng
