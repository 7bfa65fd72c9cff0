/-
  Parts of the proof: Aa, Ab, Wt, Wz.
-/
import Derived.Lib.AppendStr
import Derived.Test.YtbpmlbjapapoaaaGreatDoorRB0a
import Derived.Test.YtbpmlbjapapoaaaGreatDoorRB4
import Derived.Test.YtbpmlbjapapoaaaGreatDoorRWk
import Derived.Test.YtbpmlbjapapoaaaGreatDoorRWo
import Derived.Test.YtbpmlbjapapoaaaGreatDoorRYa
set_option maxRecDepth 100000
set_option maxHeartbeats 64000000
namespace Go.Proofs.YtbpmlbjapapoaaaGreatDoor.Eng
open Go.RowKit
section
attribute [local irreducible] xs T
def PowT (w : World) : Prop:=Lib.TabIs Tryz.prog w "internal/strconv.uint64pow10" .u64 Lib.pow10Tab
theorem PowT.ext {w w' : World} (h : PowT w) (hE : Ext w w') : PowT w':=by
 unfold PowT Lib.TabIs at h ⊢
 rw [← h]
 unfold World.var? at h ⊢
 cases hg : Tryz.prog.globalNamed "internal/strconv.uint64pow10" with
 | none=>rfl
 | some g=>
  rw [hg] at h
  have hlt : g < w.heap.size:=by
   rcases Nat.lt_or_ge g w.heap.size with hh | hh
   ·exact hh
   ·simp only [Option.bind_some,Array.getElem?_eq_none hh] at h
    cases h
  simp only [Option.bind_some,hE.block g hlt (fun hh=>hh)]
def decS (n : Nat) : Str:=Lib.itoa (n : Int)
theorem itoa_does (w : World) (n : Nat) (hn : n ≤ 9223372036854775807) (hP : PowT w) : Does Tryz.prog 50 #[.int .i64 (n : Int)] w fun r w'=>r = .string (su (decS n)) ∧ Ext w w':=by
 refine Calls.mono (Any.strconv_Itoa laysItoa (n : Int) (by omega) (by omega) w hP) fun e w' ⟨he,k,os,hw⟩=>?_
 refine ⟨_,he,rfl,?_⟩
 subst hw
 refine ⟨rfl,rfl,rfl,by simp,fun j hj _=>?_⟩
 exact Go.Sort.heap_grow_old _ _ (by simpa using hj)
theorem cla_does (w : World) (v : Value) (l : List Att) (hv : Rw attC w v l) (hl : l.length ≤ 1000000) : Does Tryz.prog 47 #[v] w fun r w'=>Ow attC 2 w' w.heap.size 78 r l ∧ Ext w w':=by
 refine does1 Tryz.func47 rfl (by kernel_rfl) ?_
 obtain ⟨A,c,rfl,hc,hcm,hA⟩:=hv.op attC_len
 cases A with
 | none=>
  have h0 : l = []:=by
   rcases l with _ | ⟨z,l⟩
   ·rfl
   ·obtain ⟨b,o,h,_⟩:=hA (by simp);cases h
  exact y27
 | some a=>
  refine goL ?_
  refine xsn rfl rfl rfl ?_
  refine goL ?_
  refine xbz0 sl_atts (fun w1 hO1 hE1 hs1=>?_)
  refine goL ?_
  refine xapz (B:=w.heap.size) (news:=l.flatMap attC) sl_atts rfl (by decide) rfl hO1 rfl (Row.ext hv hE1) (flat_len attC_len _) (attC_one _) (by unfold maxLen;omega) (by omega) (by omega) (fun v2 w2 hO2 hF2 _=>?_)
  refine goL ?_
  refine tret1 rfl rfl ⟨by rw [Nat.zero_add] at hO2;exact hO2,hE1.te hF2 fun j hj e=>?_⟩
  have : w.heap.size = j:=by simpa [Value.ownBlock] using e
  omega
theorem clc_does (w : World) (v : Value) (l : List Ac) (hv : Rw acC w v l) (hl : l.length ≤ 1000000) : Does Tryz.prog 48 #[v] w fun r w'=>Ow acC 3 w' w.heap.size 80 r l ∧ Ext w w':=by
 refine does1 Tryz.func48 rfl (by kernel_rfl) ?_
 obtain ⟨A,c,rfl,hc,hcm,hA⟩:=hv.op acC_len
 cases A with
 | none=>
  have h0 : l = []:=by
   rcases l with _ | ⟨z,l⟩
   ·rfl
   ·obtain ⟨b,o,h,_⟩:=hA (by simp);cases h
  exact y27
 | some a=>
  refine goL ?_
  refine xsn rfl rfl rfl ?_
  refine goL ?_
  refine xbz0 sl_acs (fun w1 hO1 hE1 hs1=>?_)
  refine goL ?_
  refine xapz (B:=w.heap.size) (news:=l.flatMap acC) sl_acs rfl (by decide) rfl hO1 rfl (Row.ext hv hE1) (flat_len acC_len _) (acC_one _) (by unfold maxLen;omega) (by omega) (by omega) (fun v2 w2 hO2 hF2 _=>?_)
  refine goL ?_
  refine tret1 rfl rfl ⟨by rw [Nat.zero_add] at hO2;exact hO2,hE1.te hF2 fun j hj e=>?_⟩
  have : w.heap.size = j:=by simpa [Value.ownBlock] using e
  omega
theorem cld_does (w : World) (v : Value) (l : List Pce) (hv : Rw pcC w v l) (hl : l.length ≤ 1000000) : Does Tryz.prog 49 #[v] w fun r w'=>Ow pcC 2 w' w.heap.size 65 r l ∧ Ext w w':=by
 refine does1 Tryz.func49 rfl (by kernel_rfl) ?_
 obtain ⟨A,c,rfl,hc,hcm,hA⟩:=hv.op pcC_len
 cases A with
 | none=>
  have h0 : l = []:=by
   rcases l with _ | ⟨z,l⟩
   ·rfl
   ·obtain ⟨b,o,h,_⟩:=hA (by simp);cases h
  exact y27
 | some a=>
  refine goL ?_
  refine xsn rfl rfl rfl ?_
  refine goL ?_
  refine xbz0 sl_pcs (fun w1 hO1 hE1 hs1=>?_)
  refine goL ?_
  refine xapz (B:=w.heap.size) (news:=l.flatMap pcC) sl_pcs rfl (by decide) rfl hO1 rfl (Row.ext hv hE1) (flat_len pcC_len _) (pcC_one _) (by unfold maxLen;omega) (by omega) (by omega) (fun v2 w2 hO2 hF2 _=>?_)
  refine goL ?_
  refine tret1 rfl rfl ⟨by rw [Nat.zero_add] at hO2;exact hO2,hE1.te hF2 fun j hj e=>?_⟩
  have : w.heap.size = j:=by simpa [Value.ownBlock] using e
  omega
def barP (p : Pce) : Pce:=⟨p.pos,decS p.data.length⟩
def ndZ : Nd:=⟨0,0,0,0,0,[],[],0,[],[],0,0⟩
def bareN (n : Nd) : Nd:=if nodeOK n = true then { n with data:=n.data.map barP } else ndZ
def ndZV : NdV:=⟨ndZ,.slice none 0 0,.slice none 0 0,.slice none 0 0⟩
structure BarI (w : World) (x : NdV) (g : Nat) (y : Nat × NdV) (w' : World) : Prop where
 le : y.1 ≤ x.n.data.length
 n : y.2.n = { x.n with data:=(x.n.data.take y.1).map barP ++ x.n.data.drop y.1 }
 B : Blk w' g 47 (ndC y.2).toArray
 R : Blk w' (g + 1) 47 (ndC ndZV).toArray
 a : Ow attC 2 w' (g + 2) 78 y.2.va y.2.n.attrs
 c : Ow acC 3 w' (g + 2) 80 y.2.vc y.2.n.acl
 d : Ow pcC 2 w' (g + 2) 65 y.2.vd y.2.n.data
 ext : Ext w w'
 ok : nodeOK x.n = true
theorem set_bar {α β : Type} (f : α → β) (k : β → α) : ∀ {l : List α} {i : Nat} {p : α},l[i]? = some p → ((l.take i).map (fun a=>k (f a)) ++ l.drop i).set i (k (f p)) = (l.take (i + 1)).map (fun a=>k (f a)) ++ l.drop (i + 1)
 | [],i,p,h=>by simp at h
 | a :: l,0,p,h=>by
  simp only [List.getElem?_cons_zero,Option.some.injEq] at h
  subst h;simp
 | a :: l,i + 1,p,h=>by
  have ih:=set_bar f k (l:=l) (i:=i) (p:=p) (by simpa using h)
  simpa using ih
theorem bare_does (w : World) (x : NdV) (hx : NdIn w x) (hb : bytesP x.n.data ≤ 1000000) (la : x.n.attrs.length ≤ 1000000) (lc : x.n.acl.length ≤ 1000000) (ld : x.n.data.length ≤ 1000000) (hP : PowT w) : Does Tryz.prog 19 #[.agg (ndC x).toArray] w fun r w'=>∃ x' : NdV,r = .agg (ndC x').toArray ∧ x'.n = bareN x.n ∧ NdO w' w.heap.size x' ∧ Ext w w':=by
 refine does1 Tryz.func19 rfl (by kernel_rfl) ?_
 have hN : ∀ {a b c : World} {g : Nat},Ext a b → Fr (· = g) b c → a.heap.size ≤ g → Ext a c:=fun h1 h2 hg=>h1.trans h2 fun j hj e=>absurd hj (by omega)
 obtain ⟨Aa,ca,hva,_,_,_⟩:=hx.a.op attC_len
 obtain ⟨Ac,cc,hvc,_,_,_⟩:=hx.c.op acC_len
 obtain ⟨Ad,cd,hvd,_,_,_⟩:=hx.d.op pcC_len
 refine goL ?_
 refine xbox rfl (fun w1 hB1 hE1 hs1=>?_)
 obtain ⟨g,hg⟩ : ∃ g,g = w.heap.size:=⟨_,rfl⟩
 rw [← hg] at hB1 hs1 ⊢
 refine goL ?_
 refine xalloc (z:=.agg (ndC ndZV).toArray) (by kernel_rfl) (fun w2 hB2 hE2 hs2=>?_)
 rw [hs1] at hB2 hs2 ⊢
 have hB : Blk w2 g 47 (ndC x).toArray:=Blk.ext hB1 hE2
 have hE02 : Ext w w2:=hE1.t hE2
 refine goL ?_
 refine tscope1 (α:=Nat × NdV) 0 rfl (fun y=>[(1,.pointer (some ⟨g,0,none⟩)),(2,.pointer (some ⟨g + 1,0,none⟩)),(3,.int .i64 (y.1 : Int))]) (BarI w x g) (fun y=>x.n.data.length - y.1) ?_ ?_
 ·rintro ⟨i,⟨yn,ya,yc,yd⟩⟩ w' h
  obtain ⟨hi,hn,hB',hR,hOa,hOc,hOd,hE,hok⟩:=h
  dsimp only at hi hn hB' hR hOa hOc hOd ⊢
  have hyl : yn.data.length = x.n.data.length:=by rw [hn];simp;omega
  obtain ⟨A1,c1,rfl,_,_⟩:=hOa.form
  obtain ⟨A2,c2,rfl,_,_⟩:=hOc.form
  by_cases hlt : i < x.n.data.length
  ·obtain ⟨g3,c3,rfl,hg3,hg3l,_,_⟩:=hOd.go (by omega)
   have hlt' : i < yn.data.length:=by omega
   obtain ⟨A,c,e3,_,_,hA⟩:=hOd.rw.op pcC_len
   injection e3 with e3 _ _
   subst e3
   obtain ⟨b,o,p,e4,_,hp,_,hcell⟩:=hA.at_ hlt'
   injection e4 with e4
   injection e4 with e4 e5 _
   subst e4;subst e5
   have hp0 : x.n.data[i]? = some p:=by
    rw [hn] at hp
    have : ((x.n.data.take i).map barP ++ x.n.data.drop i)[i]? = some p:=hp
    rw [List.getElem?_append_right (by simp;omega)] at this
    simpa [Nat.min_eq_left (Nat.le_of_lt hlt)] using this
   have hplen : p.data.length ≤ 1000000:=by
    have:=bytesP_le x.n.data (i + 1)
    have h2:=bytesP_take hp0
    omega
   have hBd:=hB'.ext (Fr.drew _ w')
   have k8 : w'.drew.cell? ⟨g,8,none⟩ = some (.slice (some ⟨g3,0,none⟩) yn.data.length c3):=hBd.cell 8
   have k1 : w'.drew.cell? ⟨g3,0 + i * 2 + 1,none⟩ = some (.string (su p.data)):=Ext.cell (Fr.drew noneB w') (hcell 1 _ rfl)
   have hEd : Ext w w'.drew:=hE.t (Fr.drew _ w')
   have k8w : w'.cell? ⟨g,8,none⟩ = some (.slice (some ⟨g3,0,none⟩) yn.data.length c3):=hB'.cell 8
   refine goL ?_
   refine tdrawH [31] (fun w''=>Blk w'' g 47 (ndC ⟨yn,.slice A1 yn.attrs.length c1,.slice A2 yn.acl.length c2,.slice (some ⟨g3,0,none⟩) yn.data.length c3⟩).toArray) (by kernel_rfl) (by decide +kernel) hBd ?_
   refine goL ?_
   refine xldh (v:=.slice (some ⟨g3,0,none⟩) yn.data.length c3) rfl (by kernel_rfl) (fun w'' h=>(Blk.cell h 8 : _)) ?_
   refine gz13 ?_
   refine gz2 ?_
   have hBall : ∀ {w3 : World},Ext w'.drew w3 → Blk w3 g 47 (ndC ⟨yn,.slice A1 yn.attrs.length c1,.slice A2 yn.acl.length c2,.slice (some ⟨g3,0,none⟩) yn.data.length c3⟩).toArray:=fun h=>hBd.ext h
   refine xcall rfl rfl (itoa_does w'.drew p.data.length (by omega) (hP.ext hEd)) (fun r w3 h3=>?_) (fun r w3 h3=>hBall h3.2)
   obtain ⟨rfl,hE3⟩:=h3
   have z3:=hE3.size
   refine gz13 ?_
   have zd : w'.heap.size ≤ w'.drew.heap.size:=(Fr.drew noneB w').size
   have hO3:=(hOd.ext (Fr.drew _ w')).ext hE3
   have hE03 : Ext w w3:=hEd.t hE3
   refine xstc pcC_len (x':=barP p) i 1 hO3 rfl rfl (by omega) (by omega) (by kernel_rfl) rfl hp rfl (fun w4 hO4 hF4=>?_) (fun w4 hF4=>(hBall hE3).fr hF4 (show ¬ g = g3 by omega))
   have hB4:=(hBall hE3).fr hF4 (show ¬ g = g3 by omega)
   have hR4:=((hR.ext (Fr.drew _ w')).ext hE3).fr hF4 (show ¬ g + 1 = g3 by omega)
   have ha4:=((hOa.ext (Fr.drew _ w')).ext hE3).fr hF4 fun b hb e=>by
    have e : b = g3:=e
    subst e
    exact Ow.apart hOa hOd (by decide) hb rfl
   have hc4:=((hOc.ext (Fr.drew _ w')).ext hE3).fr hF4 fun b hb e=>by
    have e : b = g3:=e
    subst e
    exact Ow.apart hOc hOd (by decide) hb rfl
   have hn4 : ({ yn with data:=yn.data.set i (barP p) } : Nd) = { x.n with data:=(x.n.data.take (i + 1)).map barP ++ x.n.data.drop (i + 1) }:=by
    rw [hn]
    have:=set_bar barP (fun a : Pce=>a) hp0
    have hm : (x.n.data.take i).map barP ++ x.n.data.drop i = yn.data:=by rw [hn]
    show ({ x.n with data:=((x.n.data.take i).map barP ++ x.n.data.drop i).set i (barP p) } : Nd) = _
    rw [show ((x.n.data.take i).map barP ++ x.n.data.drop i).set i (barP p) = (x.n.data.take (i + 1)).map barP ++ x.n.data.drop (i + 1) from this]
   have hlen4 : (yn.data.set i (barP p)).length = yn.data.length:=List.length_set
   have hO4' : Ow pcC 2 w4 (g + 2) 65 (.slice (some ⟨g3,0,none⟩) yn.data.length c3) (yn.data.set i (barP p)):=hO4
   refine goL ?_
   exact tgoto rfl ⟨_,(by show x.n.data.length - (i + 1) < x.n.data.length - i;omega),rfl,(i + 1,⟨{ yn with data:=yn.data.set i (barP p) },.slice A1 yn.attrs.length c1,.slice A2 yn.acl.length c2,.slice (some ⟨g3,0,none⟩) yn.data.length c3⟩),sub ⟨rfl,rfl,ieq (by dsimp only;omega)⟩,⟨by show i + 1 ≤ _;omega,hn4,hB4,hR4,ha4,hc4,(by show Ow pcC 2 w4 (g + 2) _ _ _;exact hO4'),hN hE03 hF4 (by omega),hok⟩,rfl⟩
  ·obtain rfl : i = x.n.data.length:=by omega
   obtain ⟨B3,d3,rfl,hd1,hd2⟩:=hOd.form
   have k8 : w'.cell? ⟨g,8,none⟩ = some (.slice B3 yn.data.length d3):=hB'.cell 8
   rw [hyl] at k8
   refine goL ?_
   refine xlda (t:=47) hB' rfl rfl ?_
   refine xsta hR rfl rfl (by kernel_rfl) rfl (one_cells (l:=ndC ⟨yn,.slice A1 yn.attrs.length c1,.slice A2 yn.acl.length c2,.slice B3 yn.data.length d3⟩) rfl) (fun w7 hB7 hF7=>?_)
   refine goL ?_
   have ne : ∀ b,g + 2 ≤ b → ¬ b = g + 1:=fun b hb=>by omega
   refine tretc rfl rfl hB7 (by kernel_rfl) ⟨_,rfl,?_,⟨OwnZ.mono (hOa.fr hF7 fun b hb=>ne b (hOa.blk hb).1) (by omega),OwnZ.mono (hOc.fr hF7 fun b hb=>ne b (hOc.blk hb).1) (by omega),OwnZ.mono (OwnZ.fr hOd hF7 fun b hb=>ne b (OwnZ.blk hOd hb).1) (by omega)⟩,hN hE hF7 (by omega)⟩
   show yn = _
   unfold bareN
   rw [if_pos hok,hn,List.take_of_length_le (Nat.le_refl _),List.drop_eq_nil_of_le (Nat.le_refl _),List.append_nil]
 ·intro H
  have hx2:=hx.ext hE02
  refine goL ?_
  refine xlda (t:=47) hB rfl rfl ?_
  refine xcallE rfl rfl (nodemay_does w2 x hx2 hb) (fun r w3 h3=>?_)
  obtain ⟨rfl,hE3⟩:=h3
  have hB3:=hB.ext hE3
  have hR3 : Blk w3 (g + 1) 47 (ndC ndZV).toArray:=Blk.ext hB2 hE3
  have z2:=hE2.size;have z3:=hE3.size
  cases hok : nodeOK x.n with
  | false=>
   refine goL ?_
   refine xbd (cells:=(ndC ndZV).toArray) rfl (by kernel_rfl) ?_
   refine xsta hR3 rfl rfl (by kernel_rfl) rfl (by kernel_rfl) (fun w7 hB7 hF7=>?_)
   refine goL ?_
   refine tretc rfl rfl hB7 (by kernel_rfl) ⟨ndZV,rfl,?_,⟨Ow.nil _ _ _,Ow.nil _ _ _,Ow.nil _ _ _⟩,hN (hE02.t hE3) hF7 (by omega)⟩
   show ndZ = _
   unfold bareN
   rw [hok];rfl
  | true=>
   have hx3:=hx2.ext hE3
   have k5 : w3.cell? ⟨g,5,none⟩ = some (.slice Aa x.n.attrs.length ca):=by rw [← hva];exact hB3.cell 5
   refine goL ?_
   have ha3:=hx3.a
   rw [hva] at ha3
   refine xcallE rfl rfl (cla_does w3 _ _ ha3 la) (fun r w4 h4=>?_)
   obtain ⟨hOa4,hE4⟩:=h4
   obtain ⟨A1,c1,rfl,_,_⟩:=hOa4.form
   have z4:=hE4.size
   refine goL ?_
   refine xstb (hB3.ext hE4) rfl rfl (by kernel_rfl) rfl rfl (fun w5 hB5 hF5=>?_)
   have hB5' : Blk w5 g 47 (ndC ⟨x.n,.slice A1 x.n.attrs.length c1,x.vc,x.vd⟩).toArray:=hB5
   have hE5 : Ext w w5:=hN ((hE02.t hE3).t hE4) hF5 (by omega)
   have hR5:=(Blk.ext hR3 hE4).fr hF5 (show ¬ g + 1 = g by omega)
   have hOa5:=hOa4.fr hF5 fun b hb=>by have:=(hOa4.blk hb).1;show ¬ b = g;omega
   have z5:=hF5.size
   have k6 : w5.cell? ⟨g,6,none⟩ = some (.slice Ac x.n.acl.length cc):=by rw [← hvc];exact hB5'.cell 6
   have hc5:=hx.c.ext hE5
   rw [hvc] at hc5
   refine goL ?_
   refine xcallE rfl rfl (clc_does w5 _ _ hc5 lc) (fun r w6 h6=>?_)
   obtain ⟨hOc6,hE6⟩:=h6
   obtain ⟨A2,c2,rfl,_,_⟩:=hOc6.form
   have z6:=hE6.size
   refine goL ?_
   refine xstb (hB5'.ext hE6) rfl rfl (by kernel_rfl) rfl rfl (fun w7 hB7 hF7=>?_)
   have hB7' : Blk w7 g 47 (ndC ⟨x.n,.slice A1 x.n.attrs.length c1,.slice A2 x.n.acl.length c2,x.vd⟩).toArray:=hB7
   have hE7 : Ext w w7:=hN (hE5.t hE6) hF7 (by omega)
   have hR7:=(Blk.ext hR5 hE6).fr hF7 (show ¬ g + 1 = g by omega)
   have hOc7:=hOc6.fr hF7 fun b hb=>by have:=(hOc6.blk hb).1;show ¬ b = g;omega
   have hOa7:=(hOa5.ext hE6).fr hF7 fun b hb=>by have:=((hOa5.ext hE6).blk hb).1;show ¬ b = g;omega
   have z7:=hF7.size
   have k8 : w7.cell? ⟨g,8,none⟩ = some (.slice Ad x.n.data.length cd):=by rw [← hvd];exact hB7'.cell 8
   have hd7:=hx.d.ext hE7
   rw [hvd] at hd7
   refine goL ?_
   refine xcallE rfl rfl (cld_does w7 _ _ hd7 ld) (fun r w8 h8=>?_)
   obtain ⟨hOd8,hE8⟩:=h8
   obtain ⟨A3,c3,rfl,_,_⟩:=hOd8.form
   have z8:=hE8.size
   refine goL ?_
   refine xstb (hB7'.ext hE8) rfl rfl (by kernel_rfl) rfl rfl (fun w9 hB9 hF9=>?_)
   have hB9' : Blk w9 g 47 (ndC ⟨x.n,.slice A1 x.n.attrs.length c1,.slice A2 x.n.acl.length c2,.slice A3 x.n.data.length c3⟩).toArray:=hB9
   have hE9 : Ext w w9:=hN (hE7.t hE8) hF9 (by omega)
   have hR9:=(Blk.ext hR7 hE8).fr hF9 (show ¬ g + 1 = g by omega)
   have hOd9:=hOd8.fr hF9 fun b hb=>by have:=(hOd8.blk hb).1;show ¬ b = g;omega
   have hOa9:=(hOa7.ext hE8).fr hF9 fun b hb=>by have:=((hOa7.ext hE8).blk hb).1;show ¬ b = g;omega
   have hOc9:=(hOc7.ext hE8).fr hF9 fun b hb=>by have:=((hOc7.ext hE8).blk hb).1;show ¬ b = g;omega
   refine goL ?_
   refine tlabel ?_
   exact tweak (H (0,⟨x.n,.slice A1 x.n.attrs.length c1,.slice A2 x.n.acl.length c2,.slice A3 x.n.data.length c3⟩) w9 ⟨Nat.zero_le _,rfl,hB9',hR9,OwnZ.mono hOa9 (by omega),OwnZ.mono hOc9 (by omega),OwnZ.mono hOd9 (by omega),hE9,hok⟩) (sub ⟨rfl,rfl,rfl⟩)
end
section
open Go.RowKit Go.Lib
def bs (l : Str) : List Value:=strCells (su l)
theorem bs_len (l : Str) : (bs l).length = l.length:=by
 unfold bs
 rw [strCells_length,su_size]
theorem bs_app (l r : Str) : bs (l ++ r) = bs l ++ bs r:=by
 unfold bs strCells su
 simp
theorem sl_by : SlT 29 5 (.int .u8 0) 1 1:=slT Tryz.underlying29 (by kernel_rfl)
section
variable {hs : List Nat} {H : World → Prop} {full : Array Oper} {K : Env → World → Prop} {rest : List Oper} {env : Env} {w : World} {d : Tmp} {dst : Option Tmp} {ty : TypeId} {pos : String} {af : Array Edge}
theorem xaps {s x : Operand} {v : Value} {B : Nat} {l r : Str} (hss : evo env s = some v) (hown : Own w B 5 v (bs l)) (hx : evo env x = some (.string (su r))) (hn : l.length + r.length ≤ 140737488355328) (hbase : B ≤ w.heap.size)
  (h : ∀ v' w',Own w' B 5 v' (bs (l ++ r)) → Fr (fun b=>v.ownBlock = some b) w w' → xs Tryz.prog isI isS hs H full K rest ((d,v') :: env) w') (hH : ∀ w',Fr (fun b=>v.ownBlock = some b) w w' → H w':=by intros;trivial) :
  xs Tryz.prog isI isS hs H full K (⟨some d,.call { callee:=.builtin .append,args:=⟨[s,x]⟩,argTypes:=⟨[29,9]⟩ },ty,pos,af,none⟩ :: rest) env w:=by
 obtain ⟨hu,i,hi,hz,hsz,hby⟩:=sl_by
 have hl:=bs_len l
 have hr : (su r).size = r.length:=su_size r
 obtain ⟨v',w',hrun,h2,h3,_⟩:=run_append_own_string (P:=Tryz.prog) (w:=w) B 29 9 ty 5 i hu (by kernel_rfl) hi hz hsz hby v (bs l).length (bs l) hown (su r) (by unfold maxLen;omega) (by omega) hbase
 have hF : Fr (fun b=>v.ownBlock = some b) w w':=Fr.grown h3 fun k hk _=>hk
 refine xw (by simp [opsOK,Op.operands,Call.operands,hss,hx]) rfl (v:=v') (w':=w') ?_ (h v' w' (by
  unfold Own
  rw [bs_app,List.length_append,show (bs r).length = (su r).size by rw [bs_len,hr]]
  exact h2) hF) (hH _ hF)
 simp [execOp,resolve,invoke,builtin,ev_of hss,ev_of hx,hrun]
end
def catP (l : List Pce) : Str:=l.flatMap (·.data)
theorem catP_take {l : List Pce} {i : Nat} {p : Pce} (h : l[i]? = some p) : catP (l.take (i + 1)) = catP (l.take i) ++ p.data:=by
 unfold catP
 rw [List.take_add_one,h]
 simp
theorem catP_le (l : List Pce) (i : Nat) : (catP (l.take i)).length ≤ (catP l).length:=by
 have e : catP l = catP (l.take i) ++ catP (l.drop i):=by
  unfold catP
  rw [← List.flatMap_append,List.take_append_drop]
 rw [e,List.length_append];omega
def Ty8 (w : World) (B : Nat) : Nat → Prop:=fun b=>B ≤ b ∧ ∃ cs,Blk w b 5 cs
theorem own_ty8 {w : World} {B : Nat} {v : Value} {l : List Value} (h : Own w B 5 v l) : ∀ b,v.ownBlock = some b → Ty8 w B b:=fun b hb=>by
 obtain ⟨_,h2⟩:=h
 rcases h2 with ⟨rfl,_⟩ | ⟨g,cap,cur,rfl,hg,hh,_⟩
 ·cases hb
 ·have hb : some g = some b:=hb
  obtain rfl:=Option.some.inj hb
  exact ⟨hg,cur,hh⟩
theorem Ty8.tr {w w1 w2 : World} {B : Nat} {v : Value} {l : List Value} (h : Fr (Ty8 w B) w w1) (hO : Own w1 B 5 v l) (h2 : Fr (fun b=>v.ownBlock = some b) w1 w2) : Fr (Ty8 w B) w w2:=h.trans h2 fun j hj e=>by
 obtain ⟨h3,cs,h4⟩:=own_ty8 hO j e
 refine ⟨h3,?_⟩
 by_cases hq : Ty8 w B j
 ·exact hq.2
 ·have:=h.block j hj hq
  exact ⟨cs,by unfold Blk at h4 ⊢;rw [← this];exact h4⟩
theorem Ty8.ext {w0 w w1 : World} (hE : Ext w0 w) (h : Fr (Ty8 w w0.heap.size) w w1) : Ext w0 w1:=hE.trans h fun j hj e=>absurd e.1 (by omega)
attribute [local irreducible] xs T
structure GatI (w0 w : World) (ps : List Pce) (l : Str) (y : Nat × Value) (w' : World) : Prop where
 le : y.1 ≤ ps.length
 o : Own w' w0.heap.size 5 y.2 (bs (l ++ catP (ps.take y.1)))
 fr : Fr (Ty8 w w0.heap.size) w w'
theorem gather_does (w0 w : World) (v vd : Value) (l : Str) (ps : List Pce) (hE : Ext w0 w) (hps : Rw pcC w0 vd ps) (hO : Own w w0.heap.size 5 v (bs l)) (hl : l.length + (catP ps).length ≤ 1000000000) : Does Tryz.prog 20 #[v,vd] w fun r w'=>Own w' w0.heap.size 5 r (bs (l ++ catP ps)) ∧ Fr (Ty8 w w0.heap.size) w w':=by
 refine does2 Tryz.func20 rfl (by kernel_rfl) ?_
 obtain ⟨A,c,rfl,hc1,hc2,hA⟩:=hps.op pcC_len
 refine goL ?_
 refine tscope1 (α:=Nat × Value) 0 rfl (fun y=>[(0,y.2),(1,.slice A ps.length c),(5,.int .i64 (y.1 : Int))]) (GatI w0 w ps l) (fun y=>ps.length - y.1) ?_ ?_
 ·rintro ⟨i,v'⟩ w' ⟨hi,ho,hF⟩
  dsimp only at hi ho ⊢
  have hE':=Ty8.ext hE hF
  by_cases hlt : i < ps.length
  ·obtain ⟨b,o,p,rfl,_,hp,_,hcell⟩:=hA.at_ hlt
   have k1 : w'.cell? ⟨b,o + i * 2 + 1,none⟩ = some (.string (su p.data)):=hE'.cell (hcell 1 _ rfl)
   have ht:=catP_take hp
   have hle:=catP_le ps (i + 1)
   rw [ht,List.length_append] at hle
   refine gz4 ?_
   refine xaps (B:=w0.heap.size) rfl ho rfl (by rw [List.length_append];omega) hE'.size (fun v2 w2 ho2 hF2=>?_)
   have hF3:=Ty8.tr hF ho hF2
   refine goL ?_
   exact tgoto rfl ⟨_,(by show ps.length - (i + 1) < ps.length - i;omega),rfl,(i + 1,v2),sub ⟨rfl,rfl,ieq (by dsimp only;omega)⟩,⟨by show i + 1 ≤ _;omega,by show Own _ _ _ v2 (bs (l ++ catP (ps.take (i + 1))));rw [ht,← List.append_assoc];exact ho2,hF3⟩,rfl⟩
  ·obtain rfl : i = ps.length:=by omega
   refine goL ?_
   exact tret1 rfl rfl ⟨by rw [List.take_length] at ho;exact ho,hF⟩
 ·intro H
  refine goL ?_
  refine tlabel ?_
  exact tweak (H (0,v) w ⟨Nat.zero_le _,by simpa [catP] using hO,Fr.refl _ _⟩) (sub ⟨rfl,rfl,rfl⟩)
end
section
theorem ndC_one {w : World} {y : NdV} (h : NdIn w y) : ∀ u ∈ ndC y,u.oneCell' = true:=fun u hu=>by
 obtain ⟨A1,c1,e1,_⟩:=h.a
 obtain ⟨A2,c2,e2,_⟩:=h.c
 obtain ⟨A3,c3,e3,_⟩:=h.d
 unfold ndC at hu
 rw [e1,e2,e3] at hu
 simp only [List.mem_cons,List.not_mem_nil,or_false] at hu
 rcases hu with rfl | rfl | rfl | rfl | rfl | rfl | rfl | rfl | rfl | rfl | rfl | rfl <;> rfl
def NormR (t : Tre) (w : World) (r : Value) (w' : World) : Prop:=Ext w w' ∧ match normT t with
 | none=>r = .tuple #[.agg #[.slice none 0 0,.slice none 0 0],.int .i64 1]
 | some t'=>∃ ve vn nvs,r = .tuple #[.agg #[ve,vn],.int .i64 0] ∧ TrV w' ve vn nvs t'
end
section
section
variable {hs : List Nat} {H : World → Prop} {full : Array Oper} {K : Env → World → Prop} {rest : List Oper} {env : Env} {w : World} {d : Tmp} {ty : TypeId} {pos : String} {af : Array Edge}
end
attribute [local irreducible] xs T
def notSl : Value → Bool
 | .slice ..=>false
 | _=>true
theorem Rw.slc {α : Type} {cf : α → List Value} {w w' : World} {v : Value} {l : List α} {g : Nat} {t : TypeId} {cs : Array Value} (h : Rw cf w v l) (hc : ∀ x,∃ u r,cf x = u :: r ∧ notSl u = true) (hB : Blk w g t cs) (hcs : ∀ u ∈ cs.toList,notSl u = false) (hF : Fr (· = g) w w') : Rw cf w' v l:=by
 obtain ⟨A,c,rfl,h1,h2,h3⟩:=h
 refine ⟨A,c,rfl,h1,h2,fun h0=>?_⟩
 obtain ⟨b,o,rfl,hb,hcell⟩:=h3 h0
 have hne : ¬ b = g:=fun e=>by
  subst e
  cases l with
  | nil=>simp at h0
  | cons x r=>
   obtain ⟨u,q,hu,hn⟩:=hc x
   have:=hcell 0 u (by rw [List.flatMap_cons,hu];rfl)
   rw [hB.cell] at this
   have hm : u ∈ cs.toList:=by
    rw [← Array.getElem?_toList] at this
    exact List.mem_of_getElem? this
   rw [hcs u hm] at hn
   cases hn
 exact ⟨b,o,rfl,Nat.lt_of_lt_of_le hb hF.size,fun j u hu=>hF.cell (hcell j u hu) hne⟩
theorem TrV.slc {w w' : World} {ve vn : Value} {l : List NdV} {t : Tre} {g : Nat} {ty : TypeId} {cs : Array Value} (h : TrV w ve vn l t) (hB : Blk w g ty cs) (hcs : ∀ u ∈ cs.toList,notSl u = false) (hF : Fr (· = g) w w') : TrV w' ve vn l t:=
 ⟨h.e.slc (fun _=>⟨_,_,rfl,rfl⟩) hB hcs hF,h.n.slc (fun _=>⟨_,_,rfl,rfl⟩) hB hcs hF,fun y hy=>⟨(h.i y hy).a.slc (fun _=>⟨_,_,rfl,rfl⟩) hB hcs hF,(h.i y hy).c.slc (fun _=>⟨_,_,rfl,rfl⟩) hB hcs hF,(h.i y hy).d.slc (fun _=>⟨_,_,rfl,rfl⟩) hB hcs hF⟩,h.m⟩
theorem two_slc (A B : Option Addr) (n c n' c' : Nat) : ∀ u ∈ (#[Value.slice A n c,Value.slice B n' c']).toList,notSl u = false:=fun u hu=>by
 simp only [List.mem_cons,List.not_mem_nil,or_false] at hu
 rcases hu with rfl | rfl <;> rfl
end
end Go.Proofs.YtbpmlbjapapoaaaGreatDoor.Eng
