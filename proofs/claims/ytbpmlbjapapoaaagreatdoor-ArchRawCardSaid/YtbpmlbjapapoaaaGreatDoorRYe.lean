/-
  Parts of the proof: Ye.
-/
import Derived.Test.YtbpmlbjapapoaaaGreatDoorRB10
import Derived.Test.YtbpmlbjapapoaaaGreatDoorRB9
import Derived.Test.YtbpmlbjapapoaaaGreatDoorRWy
set_option maxRecDepth 100000
set_option maxHeartbeats 64000000
namespace Go.Proofs.YtbpmlbjapapoaaaGreatDoor.Eng
open Go.RowKit
section
attribute [local irreducible] xs T
theorem mkNames_at : ∀ k : Nat,k < 7 → (mkNames.map fun s=>Value.string (su s))[k]? = some (.string (su (mkNames.getD k []))):=by
 intro k hk
 have h : k = 0 ∨ k = 1 ∨ k = 2 ∨ k = 3 ∨ k = 4 ∨ k = 5 ∨ k = 6:=by omega
 rcases h with rfl | rfl | rfl | rfl | rfl | rfl | rfl <;> rfl
theorem mkNames_len (k : Nat) : (mkNames.getD k []).length ≤ 3:=by
 by_cases hk : k < 7
 ·have h : k = 0 ∨ k = 1 ∨ k = 2 ∨ k = 3 ∨ k = 4 ∨ k = 5 ∨ k = 6:=by omega
  rcases h with rfl | rfl | rfl | rfl | rfl | rfl | rfl <;> decide
 ·rw [List.getD_eq_getElem?_getD,List.getElem?_eq_none (by show 7 ≤ k;omega)]
  decide
def mkBase (u : Nat) : Nd:=⟨2,(u / 5 % 4096 : Nat),(u % 3 : Nat),(u % 4 : Nat),(u % 1000000 : Nat),[],[],0,[],[],0,0⟩
theorem mkNode_no {u : Nat} (h : ¬ u % 11 = 0) : mkNode u = mkBase u:=by unfold mkNode mkBase;rw [if_neg h,if_neg h]
theorem mkNode_yes {u : Nat} (h : u % 11 = 0) : mkNode u = { mkBase u with attrs:=[⟨[117,115,101,114,46,107],118 :: decU (u % 100)⟩],acl:=[⟨1,7,(u % 8 : Nat)⟩,⟨3,0,7⟩] }:=by unfold mkNode mkBase;rw [if_pos h,if_pos h]
theorem mkFold_step {zs : List Int} {i : Nat} {z : Int} (h : zs[i]? = some z) : ((zs.take (i + 1)).map uN).foldl mkStep mkZero = mkStep (((zs.take i).map uN).foldl mkStep mkZero) (uN z):=by
 rw [List.take_add_one,h,List.map_append,List.foldl_append]
 rfl
theorem mkStep_none {m : MkS} {u : Nat} (hj : joinP (m.dirs.getD (u % m.dirs.length) []) (mkNames.getD (u / 7 % 7) []) = none) : mkStep m u = m:=by
 unfold mkStep;rw [hj]
theorem mkStep_found {m : MkS} {u : Nat} {p : Str} (hj : joinP (m.dirs.getD (u % m.dirs.length) []) (mkNames.getD (u / 7 % 7) []) = some p) (hf : (findT m.es p).isSome = true) : mkStep m u = m:=by
 unfold mkStep;rw [hj];dsimp only;rw [if_pos hf]
theorem mkStep_link {m : MkS} {u : Nat} {p : Str} (hj : joinP (m.dirs.getD (u % m.dirs.length) []) (mkNames.getD (u / 7 % 7) []) = some p) (hf : (findT m.es p).isSome = false) (h1 : ¬ u / 3 % 9 < 2) (h2 : u / 3 % 9 = 2 ∧ 0 < m.files.length) : mkStep m u = ⟨m.es ++ [⟨p,(m.files.getD (u / 2 % m.files.length) 0 : Nat)⟩],m.ns,m.dirs,m.files⟩:=by
 unfold mkStep
 rw [hj]
 dsimp only
 rw [if_neg (by rw [hf];decide),if_neg h1,if_pos h2]
structure MkB (w0 : World) (g3 g12 : Nat) (m : MkS) (u : Nat) (p : Str) (ve vn : Value) (nv : List NdV) (y : List Str × List Nat × Value × Value × NdV) (w : World) : Prop where
 mem : MkM w0 g3 { m with dirs:=y.1,files:=y.2.1 } y.2.2.1 y.2.2.2.1 ve vn nv w
 nod : MkN g12 y.2.2.2.2 y.2.2.2.2.n w
 st : mkStep m u = ⟨m.es ++ [⟨p,(m.ns.length : Int)⟩],m.ns ++ [y.2.2.2.2.n],y.1,y.2.1⟩
 sz : g12 < w.heap.size
theorem MkN.put {g12 : Nat} {x x' : NdV} {n : Nd} {w w' : World} {cs : Array Value} (h : MkN g12 x n w) (hF : Fr (· = g12) w w') (hB : Blk w' g12 47 cs) (hc : cs = (ndC x').toArray) (ha : x'.va = x.va ∧ x'.n.attrs = x.n.attrs:=by exact ⟨rfl,rfl⟩) (hcc : x'.vc = x.vc ∧ x'.n.acl = x.n.acl:=by exact ⟨rfl,rfl⟩) (hd : x'.vd = x.vd ∧ x'.n.data = x.n.data:=by exact ⟨rfl,rfl⟩) : MkN g12 x' x'.n w':=by
 subst hc
 have hk:=h.k.fr hF (Away.one h.blk (by decide))
 refine ⟨hB,⟨⟨?_,?_,?_⟩,⟨?_,?_,?_⟩⟩,rfl⟩
 ·rw [ha.1,ha.2];exact hk.i.a
 ·rw [hcc.1,hcc.2];exact hk.i.c
 ·rw [hd.1,hd.2];exact hk.i.d
 ·rw [ha.1];exact hk.t.a
 ·rw [hcc.1];exact hk.t.c
 ·rw [hd.1];exact hk.t.d
theorem MkN.set {g12 : Nat} {x x' : NdV} {n n' : Nd} {w w' w'' : World} (h : MkN g12 x n w) (hE : Ext w w') (hk : NdK w' x') (hB : Blk w'' g12 47 (ndC x').toArray) (hF : Fr (· = g12) w' w'') (hn : x'.n = n') : MkN g12 x' n' w'':=
 ⟨hB,hk.fr hF (Away.one (h.blk.ext hE) (by decide)),hn⟩
theorem MkN.away {S : Nat → Prop} {g12 : Nat} {x : NdV} {n : Nd} {w w' : World} (h : MkN g12 x n w) (hF : Fr S w w') (hA : Away w S) (hn : ¬ S g12) : MkN g12 x n w':=⟨h.blk.fr hF hn,h.k.fr hF hA,h.n⟩
section
variable {w0 w w' : World} {g3 : Nat} {m : MkS} {va vf ve vn : Value} {nv : List NdV}
theorem MkM.tre_ne {α : Type} {cf : α → List Value} {z B t : Nat} {v : Value} {l : List α} (h : MkM w0 g3 m va vf ve vn nv w) (hO : Ow cf z w B t v l) (ht : t ≠ 25) : ¬ v.ownBlock = some g3:=fun hb=>by
 obtain ⟨cs,hc⟩:=hO.typ hb
 exact hc.ne_ h.tre ht rfl
theorem MkM.res_ne {α : Type} {cf : α → List Value} {z B t : Nat} {v : Value} {l : List α} (h : MkM w0 g3 m va vf ve vn nv w) (hO : Ow cf z w B t v l) (ht : t ≠ 25) : ¬ v.ownBlock = some w0.heap.size:=fun hb=>by
 obtain ⟨cs,hc⟩:=hO.typ hb
 exact hc.ne_ h.res ht rfl
theorem MkM.dirs {v' : Value} {ds : List Str} (h : MkM w0 g3 m va vf ve vn nv w) (hF : Fr (fun b=>va.ownBlock = some b) w w') (hO : Ow stC 1 w' w0.heap.size 9 v' ds) : MkM w0 g3 { m with dirs:=ds } v' vf ve vn nv w':=
 ⟨h.ext.trans hF fun j hj e=>by have:=(h.od.blk e).1;omega,h.res.fr hF (h.res_ne h.od (by decide)),h.tre.fr hF (h.tre_ne h.od (by decide)),h.oe.fr hF fun b hb e=>h.oe.apart h.od (by decide) hb e,h.on.fr hF fun b hb e=>h.on.apart h.od (by decide) hb e,hO,h.of.fr hF fun b hb e=>h.of.apart h.od (by decide) hb e,h.nd,fun y hy=>(h.ndk y hy).fr hF (Away.own h.od (by decide))⟩
theorem MkM.fils {v' : Value} {fs : List Nat} (h : MkM w0 g3 m va vf ve vn nv w) (hF : Fr (fun b=>vf.ownBlock = some b) w w') (hO : Ow naC 1 w' w0.heap.size 3 v' fs) : MkM w0 g3 { m with files:=fs } va v' ve vn nv w':=
 ⟨h.ext.trans hF fun j hj e=>by have:=(h.of.blk e).1;omega,h.res.fr hF (h.res_ne h.of (by decide)),h.tre.fr hF (h.tre_ne h.of (by decide)),h.oe.fr hF fun b hb e=>h.oe.apart h.of (by decide) hb e,h.on.fr hF fun b hb e=>h.on.apart h.of (by decide) hb e,h.od.fr hF fun b hb e=>h.od.apart h.of (by decide) hb e,hO,h.nd,fun y hy=>(h.ndk y hy).fr hF (Away.own h.of (by decide))⟩
structure MkQ (w0 : World) (g3 : Nat) (m : MkS) (va vf ve vn : Value) (nv : List NdV) (w : World) : Prop where
 ext : Ext w0 w
 res : Blk w w0.heap.size 25 #[.slice none 0 0,.slice none 0 0]
 oe : Ow enC 2 w w0.heap.size 53 ve m.es
 on : Ow ndC 12 w w0.heap.size 47 vn nv
 od : Ow stC 1 w w0.heap.size 9 va m.dirs
 of : Ow naC 1 w w0.heap.size 3 vf m.files
 nd : nv.map (·.n) = m.ns
 ndk : ∀ y ∈ nv,NdK w y
theorem MkM.ents {v' : Value} {es : List En} (h : MkM w0 g3 m va vf ve vn nv w) (hF : Fr (fun b=>ve.ownBlock = some b) w w') (hO : Ow enC 2 w' w0.heap.size 53 v' es) : MkQ w0 g3 { m with es:=es } va vf v' vn nv w':=
 ⟨h.ext.trans hF fun j hj e=>by have:=(h.oe.blk e).1;omega,h.res.fr hF (h.res_ne h.oe (by decide)),hO,h.on.fr hF fun b hb e=>h.on.apart h.oe (by decide) hb e,h.od.fr hF fun b hb e=>h.od.apart h.oe (by decide) hb e,h.of.fr hF fun b hb e=>h.of.apart h.oe (by decide) hb e,h.nd,fun y hy=>(h.ndk y hy).fr hF (Away.own h.oe (by decide))⟩
theorem MkM.nods {v' : Value} {nv' : List NdV} (h : MkM w0 g3 m va vf ve vn nv w) (hF : Fr (fun b=>vn.ownBlock = some b) w w') (hO : Ow ndC 12 w' w0.heap.size 47 v' nv') (hk : ∀ y ∈ nv',y ∈ nv ∨ NdK w y) : MkQ w0 g3 { m with ns:=nv'.map (·.n) } va vf ve v' nv' w':=
 ⟨h.ext.trans hF fun j hj e=>by have:=(h.on.blk e).1;omega,h.res.fr hF (h.res_ne h.on (by decide)),h.oe.fr hF fun b hb e=>h.oe.apart h.on (by decide) hb e,hO,h.od.fr hF fun b hb e=>h.od.apart h.on (by decide) hb e,h.of.fr hF fun b hb e=>h.of.apart h.on (by decide) hb e,rfl,fun y hy=>((hk y hy).elim (h.ndk y) id).fr hF (Away.own h.on (by decide))⟩
theorem MkQ.tree {cs cs' : Array Value} (h : MkQ w0 g3 m va vf ve vn nv w) (hB : Blk w g3 25 cs) (hg : w0.heap.size < g3) (hB' : Blk w' g3 25 cs') (hF : Fr (· = g3) w w') (hcs : cs' = #[ve,vn]:=by rfl) : MkM w0 g3 m va vf ve vn nv w':=by
 subst hcs
 have hne : ∀ {α : Type} {cf : α → List Value} {z B t : Nat} {v : Value} {l : List α},Ow cf z w B t v l → t ≠ 25 → ∀ b,v.ownBlock = some b → ¬ b = g3:=fun hO ht b hb e=>by
  obtain ⟨cs,hc⟩:=hO.typ hb
  exact hc.ne_ hB ht e
 exact ⟨h.ext.trans hF fun j hj e=>absurd hj (by omega),h.res.fr hF (show ¬ w0.heap.size = g3 by omega),hB',h.oe.fr hF (hne h.oe (by decide)),h.on.fr hF (hne h.on (by decide)),h.od.fr hF (hne h.od (by decide)),h.of.fr hF (hne h.of (by decide)),h.nd,fun y hy=>(h.ndk y hy).fr hF (Away.one hB (by decide))⟩
theorem MkM.inv {zs : List Int} {i : Nat} (h : MkM w0 g3 m va vf ve vn nv w) (hi : i < zs.length ∧ i < 25) (hm : ((zs.take (i + 1)).map uN).foldl mkStep mkZero = m) : MkI zs w0 g3 ⟨i + 1,m,va,vf,ve,vn,nv⟩ w:=
 ⟨h.ext,hi,hm.symm,h.res,h.tre,h.oe,h.on,h.od,h.of,h.nd,h.ndk⟩
end
def mkT1 : Str:=[116,101,120,116,32]
def mkT2 : Str:=[32,111,102,32,116,104,105,115,32,97,110,100,32,116,104,97,116,44,32,97,110,100,32,111,102,32,116,104,105,115,32,97,110,100,32,116,104,97,116]
def MkR (w : World) (t : Tre) (r : Value) (w' : World) : Prop:=∃ ve vn nvs,r = .agg #[ve,vn] ∧ TrV w' ve vn nvs t ∧ Ext w w'
theorem mk_does (w : World) (v : Value) (zs : List Int) (hv : IRow w v zs) : Does Tryz.prog 13 #[v] w (MkR w (mkT (zs.map uN))):=by
 refine does1 Tryz.func13 rfl (by kernel_rfl) ?_
 have hN : ∀ {a b c : World} {g : Nat},Ext a b → Fr (· = g) b c → a.heap.size ≤ g → Ext a c:=fun h1 h2 hg=>h1.trans h2 fun j hj e=>absurd hj (by omega)
 obtain ⟨A,c,rfl,hc1,hc2,hA⟩:=hv
 refine goL ?_
 refine xalloc (z:=.agg #[.slice none 0 0,.slice none 0 0]) (by kernel_rfl) (fun w1 hB1 hE1 hs1=>?_)
 have hR1 : Blk w1 w.heap.size 25 #[.slice none 0 0,.slice none 0 0]:=hB1
 refine goL ?_
 refine xbd (parts:=[]) (cells:=(enC ⟨[],0⟩).toArray) rfl (by kernel_rfl) ?_
 refine xbz1 sl_ents rfl rfl (by decide) (by decide) (fun w2 hB2 hE2 hs2=>?_)
 refine xbd (cells:=#[.int .i64 493,.int .i64 0,.int .i64 0,.int .i64 9,.slice none 0 0,.slice none 0 0]) rfl (by kernel_rfl) ?_
 obtain ⟨x0,hx0⟩ : ∃ x0 : NdV,x0 = ⟨mkRoot,.slice none 0 0,.slice none 0 0,.slice none 0 0⟩:=⟨_,rfl⟩
 refine xbd (cells:=(ndC x0).toArray) rfl (by rw [hx0];kernel_rfl) ?_
 refine xbz1 sl_nds rfl rfl (by decide) (by decide) (fun w3 hB3 hE3 hs3=>?_)
 refine xbd (cells:=#[.slice (some ⟨w1.heap.size,0,none⟩) 1 1,.slice (some ⟨w2.heap.size,0,none⟩) 1 1]) rfl (by kernel_rfl) ?_
 refine xalloc (z:=.agg #[.slice none 0 0,.slice none 0 0]) (by kernel_rfl) (fun w4 hB4 hE4 hs4=>?_)
 refine xsta hB4 rfl rfl (by kernel_rfl) rfl (one_cells (l:=[.slice (some ⟨w1.heap.size,0,none⟩) 1 1,.slice (some ⟨w2.heap.size,0,none⟩) 1 1]) rfl) (fun w5 hB5 hF5=>?_)
 have hE35 : Ext w3 w5:=hN hE4 hF5 (Nat.le_refl _)
 refine goL ?_
 refine xbs (vs:=[.string (su [])]) sl_strs rfl rfl (by decide) (by decide) (fun u hu=>by rw [List.mem_singleton.1 hu];rfl) (fun w6 hB6 hE6 hs6=>?_)
 have hE36 : Ext w3 w6:=hE35.t hE6
 have hE26 : Ext w2 w6:=hE3.t hE36
 have hE16 : Ext w1 w6:=hE2.t hE26
 have hE06 : Ext w w6:=hE1.t hE16
 have hz5:=hE35.size
 have hin0 : NdK w6 x0:=by
  rw [hx0]
  refine ⟨⟨Rw.nil _ _ (by unfold maxLen;omega),Rw.nil _ _ (by unfold maxLen;omega),Rw.nil _ _ (by unfold maxLen;omega)⟩,⟨fun b hb=>?_,fun b hb=>?_,fun b hb=>?_⟩⟩
  all_goals cases hb
 have hI0 : MkI zs w w3.heap.size ⟨0,mkZero,.slice (some ⟨w5.heap.size,0,none⟩) 1 1,.slice none 0 0,.slice (some ⟨w1.heap.size,0,none⟩) 1 1,.slice (some ⟨w2.heap.size,0,none⟩) 1 1,[x0]⟩ w6:=by
  refine ⟨hE06,⟨Nat.zero_le _,Nat.zero_le _⟩,rfl,hR1.ext hE16,Blk.ext hB5 hE6,?_,?_,?_,Ow.nil _ _ _,by rw [hx0];rfl,fun y hy=>?_⟩
  ·exact Ow.of_blk enC_len (Blk.ext hB2 hE26) rfl (by omega) rfl (by decide)
  ·exact Ow.of_blk ndC_len (Blk.ext hB3 hE36) (by simp) (by omega) rfl (by decide)
  ·exact Ow.of_blk stC_len hB6 rfl (by omega) rfl (by decide)
  ·rw [List.mem_singleton.1 hy];exact hin0
 refine goL ?_
 obtain ⟨g3,hg3⟩ : ∃ g3,g3 = w3.heap.size:=⟨_,rfl⟩
 rw [← hg3] at hI0 ⊢
 have hg3lt : w.heap.size < g3:=by omega
 refine tloop (α:=MkW) (fun x=>[(0,.slice A zs.length c),(2,.pointer (some ⟨w.heap.size,0,none⟩)),(3,.pointer (some ⟨g3,0,none⟩)),(4,x.va),(5,x.vf),(6,.int .i64 (x.i : Int))]) (MkI zs w g3) (fun x=>25 - x.i) ⟨0,mkZero,_,_,_,_,[x0]⟩ (sub ⟨rfl,rfl,rfl,rfl,rfl,rfl⟩) hI0 ?_
 clear hI0 hin0 hx0 hB1 hB2 hB3 hB4 hB5 hB6 hF5 hE35 hE36 hE26 hE16 hz5
 rintro ⟨i,m,va,vf,ve,vn,nv⟩ w7 hI
 have hIm:=hI.m
 have hIi:=hI.i
 dsimp only at hIm hIi ⊢
 have hmk:=mkFold ((zs.take i).map uN) mkZero mkZero_ok
 rw [← hIm] at hmk
 obtain ⟨hok,hml⟩:=hmk
 have hml : m.es.length ≤ 26:=by
  have e1 : mkZero.es.length = 1:=rfl
  rw [List.length_map,List.length_take] at hml
  omega
 by_cases hlt : i < zs.length ∧ i < 25
 ·obtain ⟨hlt,hlt2⟩:=hlt
  obtain ⟨b,o,z,rfl,_,hz,hcell,_⟩:=at_row hA hlt
  have c7 : w7.cell? ⟨b,o + i,none⟩ = some (.int .i64 z):=hI.ext.cell hcell
  obtain ⟨u,hu⟩ : ∃ u,u = uN z:=⟨_,rfl⟩
  have hub : u ≤ 18446744073709551615:=hu ▸ uN_lt z
  have huz : IntKind.u64.wrap z = (u : Int):=hu ▸ uN_eq z
  have hstep:=mkFold_step hz
  rw [← hIm,← hu] at hstep
  have cont : ∀ w',Ext w7 w' → mkStep m u = m → MkI zs w g3 ⟨i + 1,m,va,vf,ve,vn,nv⟩ w':=fun w' hE hm=>by
   have h:=hI.ext' hE
   exact ⟨h.ext,⟨hlt,hlt2⟩,by dsimp only;rw [hstep,hm],h.res,h.tre,h.oe,h.on,h.od,h.of,h.nd,h.ndk⟩
  have hod : Ow stC 1 w7 w.heap.size 9 va m.dirs:=hI.od
  obtain ⟨Ad,cd,rfl,_,_⟩:=hod.form
  have hdl : 0 < m.dirs.length:=List.length_pos_iff.2 hok.dirs.2
  obtain ⟨gd,cd',ed,hgd,hgd2,_,_,hcd⟩:=OwnZ.go hI.od hdl
  injection ed with e1 e2 e3
  subst e1;subst e3
  obtain ⟨dn,hdn⟩ : ∃ dn,dn = u % m.dirs.length:=⟨_,rfl⟩
  have hdnl : dn < m.dirs.length:=hdn ▸ Nat.mod_lt _ hdl
  obtain ⟨q,hq⟩ : ∃ q,m.dirs[dn]? = some q:=⟨_,List.getElem?_eq_getElem hdnl⟩
  have hqd : m.dirs.getD dn [] = q:=by rw [List.getD_eq_getElem?_getD,hq];rfl
  have hqm : q ∈ m.dirs:=List.mem_of_getElem? hq
  have hqp : mayP q = true:=by
   obtain ⟨e,he,h1,_⟩:=hok.dirs.1 q hqm
   rw [← h1];exact hok.path e he
  have cq : w7.drew.cell? ⟨gd,dn,none⟩ = some (.string (su q)):=hcd _ _ (by rw [stC_map];simp [hq])
  have hdi : ((u : Int) % (m.dirs.length : Int)) = (dn : Int):=by rw [hdn];exact (Int.natCast_emod u m.dirs.length).symm
  have hml2:=hok.dl
  have hbdl : m.dirs.length ≤ 26:=by omega
  have hnm:=mkNames_at (u / 7 % 7) (by omega)
  repeat' (first | refine xisq i (o + i) rfl rfl rfl rfl rfl hlt ?_ | refine xcv (r:=(u : Int)) rfl rfl rfl huz ?_ | refine go1LU ?_ | fail)
  refine tdrawH [44] (fun w'=>w'.cell? ⟨gd,dn,none⟩ = some (.string (su q))) (by kernel_rfl) (by decide +kernel) cq ?_
  repeat' (first | refine xldh rfl rfl (fun _ h=>h) ?_ | refine xisq dn dn rfl rfl rfl hdi (by omega) hdnl ?_ | refine go1LU ?_ | fail)
  refine xbs (vs:=mkNames.map fun s=>.string (su s)) sl_strs rfl rfl (by decide) (by decide) (fun u hu=>by obtain ⟨s,_,rfl⟩:=List.mem_map.1 hu;rfl) (fun w8 hB8 hE8 hs8=>?_) (fun w' he=>he.cell cq)
  have hE78 : Ext w7 w8:=(Fr.drew _ _).t hE8
  have cq8 : w8.cell? ⟨gd,dn,none⟩ = some (.string (su q)):=hE8.cell cq
  have c50 : w8.cell? ⟨w7.drew.heap.size,u / 7 % 7,none⟩ = some (.string (su (mkNames.getD (u / 7 % 7) []))):=by
   have:=Blk.cell hB8 (u / 7 % 7)
   rw [List.getElem?_toArray,hnm] at this
   exact this
  repeat' (first | refine xisq (u / 7 % 7) (u / 7 % 7) rfl rfl rfl (by omega) (by omega) (by omega) ?_ | refine go1LU ?_ | fail)
  refine xcall rfl rfl (rjoin_does w8 q (mkNames.getD (u / 7 % 7) []) (by have:=mayP_len hqp;omega) (by have:=mkNames_len (u / 7 % 7);omega)) (fun r w9 h9=>?_) (fun v w' hS=>hS.2.cell cq8)
  obtain ⟨rfl,hE9⟩:=h9
  have hE79 : Ext w7 w9:=hE78.t hE9
  have hI9:=hI.ext' hE79
  obtain ⟨J,hJ⟩ : ∃ J,J = joinP q (mkNames.getD (u / 7 % 7) []):=⟨_,rfl⟩
  obtain ⟨jp,je,hje⟩ : ∃ jp je,joinR q (mkNames.getD (u / 7 % 7) []) = (jp,je):=⟨_,_,rfl⟩
  rw [hje]
  have htre9 : Blk w9 g3 25 #[ve,vn]:=hI9.tre
  refine goL ?_
  refine xlda (t:=25) htre9 rfl rfl ?_
  refine goL ?_
  refine xcallE rfl rfl (rfind_does w9 ve vn m.es jp hI9.oe.rw) (fun r w10 h10=>?_)
  obtain ⟨rfl,hE10⟩:=h10
  have hE710 : Ext w7 w10:=hE79.t hE10
  have hJ' : joinP (m.dirs.getD (u % m.dirs.length) []) (mkNames.getD (u / 7 % 7) []) = J:=by rw [← hdn,hqd,hJ]
  cases hfi : (findT m.es jp).isSome with
  | true=>
   refine goL ?_
   have hsame : mkStep m u = m:=by
    cases hJc : J with
    | none=>exact mkStep_none (hJ'.trans hJc)
    | some p=>
     have:=joinR_some (hJ.symm.trans hJc)
     rw [hje] at this
     injection this with e1 e2
     subst e1
     exact mkStep_found (hJ'.trans hJc) hfi
   exact y54
  | false=>
  by_cases hje0 : je = 0
  case neg=>
   refine goL ?_
   have hsame : mkStep m u = m:=by
    cases hJc : J with
    | none=>exact mkStep_none (hJ'.trans hJc)
    | some p=>
     have:=joinR_some (hJ.symm.trans hJc)
     rw [hje] at this
     injection this with e1 e2
     exact absurd e2 hje0
   exact y54
  subst hje0
  obtain ⟨p,hJp⟩ : ∃ p,J = some p:=by
   cases hJc : J with
   | none=>
    have:=(joinR_none (hJ.symm.trans hJc)).2
    rw [hje] at this
    exact absurd rfl this
   | some p=>exact ⟨p,rfl⟩
  have hjr:=joinR_some (hJ.symm.trans hJp)
  rw [hje] at hjr
  injection hjr with hjp _
  subst hjp
  have hjoin : joinP (m.dirs.getD (u % m.dirs.length) []) (mkNames.getD (u / 7 % 7) []) = some jp:=by rw [← hdn,hqd,← hJ,hJp]
  obtain ⟨xb,hxb⟩ : ∃ xb : NdV,xb = ⟨mkBase u,.slice none 0 0,.slice none 0 0,.slice none 0 0⟩:=⟨_,rfl⟩
  have y1 : (u : Int) / 5 % 4096 = ((u / 5 % 4096 : Nat) : Int):=by omega
  have y2 : (u : Int) % 3 = ((u % 3 : Nat) : Int):=by omega
  have y3 : (u : Int) % 4 = ((u % 4 : Nat) : Int):=by omega
  have y4 : (u : Int) % 1000000 = ((u % 1000000 : Nat) : Int):=by omega
  refine goLU ?_
  refine xbd (vs:=[(0,.int .i64 ((u / 5 % 4096 : Nat) : Int)),(1,.int .i64 ((u % 3 : Nat) : Int)),(2,.int .i64 ((u % 4 : Nat) : Int)),(3,.int .i64 ((u % 1000000 : Nat) : Int))]) (cells:=#[.int .i64 ((u / 5 % 4096 : Nat) : Int),.int .i64 ((u % 3 : Nat) : Int),.int .i64 ((u % 4 : Nat) : Int),.int .i64 ((u % 1000000 : Nat) : Int),.slice none 0 0,.slice none 0 0]) (by rw [← y1,← y2,← y3,← y4];rfl) (by kernel_rfl) ?_
  refine xbd (cells:=(ndC xb).toArray) rfl (by rw [hxb];kernel_rfl) ?_
  refine xalloc (z:=.agg nd0) (by kernel_rfl) (fun w11 hB11 hE11 hs11=>?_)
  refine xsta hB11 rfl rfl (by kernel_rfl) rfl (one_cells (by rw [hxb];rfl)) (fun w12 hB12 hF12=>?_)
  have hE1012 : Ext w10 w12:=hN hE11 hF12 (Nat.le_refl _)
  have hE712 : Ext w7 w12:=hE710.t hE1012
  obtain ⟨g12,hg12⟩ : ∃ g12,g12 = w10.heap.size:=⟨_,rfl⟩
  rw [← hg12] at hB12 ⊢
  have hM12 : MkM w g3 m (.slice (some ⟨gd,0,none⟩) m.dirs.length cd) vf ve vn nv w12:=by
   have h:=hI.ext' hE712
   exact ⟨h.ext,h.res,h.tre,h.oe,h.on,h.od,h.of,h.nd,h.ndk⟩
  have hN12 : MkN g12 xb (mkBase u) w12:=by
   refine ⟨hB12,?_,by rw [hxb]⟩
   rw [hxb]
   refine ⟨⟨Rw.nil _ _ (by unfold maxLen;omega),Rw.nil _ _ (by unfold maxLen;omega),Rw.nil _ _ (by unfold maxLen;omega)⟩,⟨fun b hb=>?_,fun b hb=>?_,fun b hb=>?_⟩⟩
   all_goals cases hb
  have hg12w : w.heap.size < g12:=by have:=hI.ext.size;have:=hE710.size;have:=hI.tre.lt;omega
  have hvn12 : ∀ b,vn.ownBlock = some b → b < g12:=fun b hb=>by have:=(hI.on.blk hb).2;have:=hE710.size;omega
  have hg12s : g12 < w12.heap.size:=by have:=hF12.size;omega
  clear hB11 hE11 hs11 hF12 hB12 hE1012 hB8 hE8 hs8 c50 hE9 hE10 htre9 hI9
  repeat' (first | refine xdec (op:=.eql) (decide (u % 11 = 0)) rfl rfl rfl (by rw [decide_eq_true_iff];omega) ?_ | refine xmv rfl ?_ | refine xas rfl ?_ | refine xld rfl rfl (by with_reducible assumption) ?_ | refine xixn rfl rfl rfl (by omega) ?_ | refine xfa rfl rfl rfl ?_ | refine xln rfl rfl ?_ | refine xnil ?_ | refine xpk rfl rfl rfl rfl ?_ | refine xgy' rfl ?_ | refine xgn' rfl ?_ | refine xex rfl rfl ?_ | refine xnot rfl ?_ | refine xnc rfl ?_ | refine xeqn rfl rfl rfl ?_ | refine xnen rfl rfl rfl ?_ | refine xadd rfl rfl (by omega) (by omega) ?_ | refine xsub rfl rfl (by omega) (by omega) ?_ | refine xmul rfl rfl (by omega) (by omega) ?_ | refine xaddu rfl rfl (by omega) (by omega) ?_ | refine xsubu rfl rfl (by omega) (by omega) ?_ | refine xquo rfl rfl (by omega) (by omega) (by omega) ?_ | refine xrem rfl rfl (by omega) (by omega) (by omega) ?_ | refine xt_eql rfl rfl (by omega) ?_ | refine xf_eql rfl rfl (by omega) ?_ | refine xt_neq rfl rfl (by omega) ?_ | refine xf_neq rfl rfl (by omega) ?_ | refine xt_lss rfl rfl (by omega) ?_ | refine xf_lss rfl rfl (by omega) ?_ | refine xt_leq rfl rfl (by omega) ?_ | refine xf_leq rfl rfl (by omega) ?_ | refine xt_gtr rfl rfl (by omega) ?_ | refine xf_gtr rfl rfl (by omega) ?_ | refine xt_geq rfl rfl (by omega) ?_ | refine xf_geq rfl rfl (by omega) ?_ | refine tseq ?_ | refine tskip ?_ | refine treg (by kernel_rfl) ?_ | refine tdraw (by kernel_rfl) (by decide +kernel) ?_ | refine texit rfl ?_ | refine xdu (op:=.rem) rfl rfl rfl (by omega) (by omega) (by omega) ?_ | refine xdu (op:=.quo) rfl rfl rfl (by omega) (by omega) (by omega) ?_ | refine xcvi rfl rfl rfl (by omega) (by omega) ?_ | refine xcvu rfl rfl rfl (by omega) (by omega) ?_ | refine xcvuw rfl rfl rfl ?_ | refine xcvby rfl rfl rfl ?_ | fail)
  refine tcut (α:=NdV) (fun _=>[(0,.slice (some ⟨b,o,none⟩) zs.length c),(2,.pointer (some ⟨w.heap.size,0,none⟩)),(3,.pointer (some ⟨g3,0,none⟩)),(4,.slice (some ⟨gd,0,none⟩) m.dirs.length cd),(5,vf),(6,.int .i64 (i : Int)),(7,.int .u64 (u : Int)),(8,.string (su jp)),(12,.pointer (some ⟨g12,0,none⟩))]) (fun x w'=>MkN g12 x (mkNode u) w' ∧ MkM w g3 m (.slice (some ⟨gd,0,none⟩) m.dirs.length cd) vf ve vn nv w' ∧ g12 < w'.heap.size) ?_ ?_
  ·by_cases h11 : u % 11 = 0
   case neg=>
    rw [decide_eq_false h11]
    refine goLU ?_
    exact tfin ⟨xb,sub ⟨rfl,rfl,rfl,rfl,rfl,rfl,rfl,rfl,rfl⟩,⟨hN12.blk,hN12.k,by rw [mkNode_no h11];exact hN12.n⟩,hM12,hg12s⟩
   rw [decide_eq_true h11]
   have z1 : ((u : Int) % 100) = ((u % 100 : Nat) : Int):=by omega
   have z2 : ((u : Int) % 8) = ((u % 8 : Nat) : Int):=by omega
   refine goLU ?_
   rw [z1]
   refine xcallE rfl rfl (rdec_does w12 (u % 100) (by omega)) (fun r w13 h13=>?_)
   obtain ⟨rfl,rfl⟩:=h13
   have hdl100:=decU_len (u % 100)
   obtain ⟨at_,hat⟩ : ∃ a : Att,a = ⟨[117,115,101,114,46,107],[118] ++ decU (u % 100)⟩:=⟨_,rfl⟩
   repeat' (first | refine xuadd (a:=[118]) (b:=decU (u % 100)) rfl rfl (by simp only [List.length_cons,List.length_nil];omega) ?_ | refine go1LU ?_ | fail)
   refine xbd (vs:=[(0,.string (su at_.name)),(1,.string (su at_.value))]) (cells:=(attC at_).toArray) (by rw [hat];rfl) (by kernel_rfl) ?_
   refine xbz1 sl_atts rfl rfl (by decide) (by decide) (fun w13 hB13 hE13 hs13=>?_)
   have hN13:=hN12.ext hE13
   refine goLU ?_
   refine xstb hN13.blk rfl rfl (by kernel_rfl) rfl rfl (fun w14 hB14 hF14=>?_)
   obtain ⟨xc,hxc⟩ : ∃ xc : NdV,xc = ⟨{ mkBase u with attrs:=[at_] },.slice (some ⟨w12.heap.size,0,none⟩) 1 1,.slice none 0 0,.slice none 0 0⟩:=⟨_,rfl⟩
   have hB14' : Blk w14 g12 47 (ndC xc).toArray:=by rw [hxc];rw [hxb] at hB14;exact hB14
   have ha14 : Blk w14 w12.heap.size 78 (attC at_).toArray:=Blk.fr hB13 hF14 (show ¬ w12.heap.size = g12 by omega)
   refine goLU ?_
   refine xbd (cells:=(acC ⟨1,7,(u % 8 : Nat)⟩).toArray) (vs:=[(0,.int .i64 1),(1,.int .i64 7),(2,.int .i64 ((u % 8 : Nat) : Int))]) (by rw [← z2];rfl) (by kernel_rfl) ?_
   refine xbd (cells:=(acC ⟨3,0,7⟩).toArray) rfl (by kernel_rfl) ?_
   refine xbzn (css:=[acC ⟨1,7,(u % 8 : Nat)⟩,acC ⟨3,0,7⟩]) sl_acs rfl (by intro cs hcs;simp only [List.mem_cons,List.not_mem_nil,or_false] at hcs;rcases hcs with rfl | rfl <;> rfl) rfl (by decide) (by decide) (by decide) (fun w15 hB15 hE15 hs15=>?_)
   refine goLU ?_
   refine xstb (Blk.ext hB14' hE15) rfl rfl (by kernel_rfl) rfl rfl (fun w16 hB16 hF16=>?_)
   obtain ⟨xd,hxd⟩ : ∃ xd : NdV,xd = ⟨{ mkBase u with attrs:=[at_],acl:=[⟨1,7,(u % 8 : Nat)⟩,⟨3,0,7⟩] },.slice (some ⟨w12.heap.size,0,none⟩) 1 1,.slice (some ⟨w14.heap.size,0,none⟩) 2 2,.slice none 0 0⟩:=⟨_,rfl⟩
   have hB16' : Blk w16 g12 47 (ndC xd).toArray:=by rw [hxd];rw [hxc] at hB16;exact hB16
   have hz14 : g12 < w14.heap.size:=by have:=hF14.size;have:=hE13.size;omega
   have ha16 : Blk w16 w12.heap.size 78 (attC at_).toArray:=(Blk.ext ha14 hE15).fr hF16 (show ¬ w12.heap.size = g12 by omega)
   have hc16 : Blk w16 w14.heap.size 80 ([acC ⟨1,7,(u % 8 : Nat)⟩,acC ⟨3,0,7⟩].flatten).toArray:=Blk.fr hB15 hF16 (show ¬ w14.heap.size = g12 by omega)
   have hM14:=(hM12.ext' hE13).node hN13.blk hg12w hvn12 hF14
   have hM16:=(hM14.ext' hE15).node (Blk.ext hB14' hE15) hg12w hvn12 hF16
   refine goLU ?_
   refine tfin ⟨xd,sub ⟨rfl,rfl,rfl,rfl,rfl,rfl,rfl,rfl,rfl⟩,⟨hB16',⟨⟨?_,?_,?_⟩,⟨fun b hb=>?_,fun b hb=>?_,fun b hb=>?_⟩⟩,?_⟩,hM16,(by have:=hF16.size;have:=hE15.size;omega)⟩
   ·rw [hxd];exact blk_row ha16 (by decide) rfl
   ·rw [hxd];exact blk_row hc16 (by decide) rfl
   ·rw [hxd];exact Rw.nil _ _ (by unfold maxLen;omega)
   ·rw [hxd] at hb
    have e : w12.heap.size = b:=by simpa [Value.ownBlock] using hb
    exact ⟨_,e ▸ ha16⟩
   ·rw [hxd] at hb
    have e : w14.heap.size = b:=by simpa [Value.ownBlock] using hb
    exact ⟨_,e ▸ hc16⟩
   ·rw [hxd] at hb;cases hb
   ·rw [hxd,mkNode_yes h11,hat];rfl
  rintro xa w13 ⟨hN13,hM13,hg13⟩
  have hfl : m.files.length ≤ 26:=by have:=hok.dl;omega
  have hvf:=hM13.of.form
  obtain ⟨Af,cf,rfl,_,_⟩:=hvf
  obtain ⟨kk,hkk⟩ : ∃ kk,u / 3 % 9 = kk:=⟨_,rfl⟩
  have hki : (u : Int) / 3 % 9 = (kk : Int):=by rw [← hkk,Int.natCast_emod,Int.natCast_ediv];rfl
  repeat' (first | refine xmv rfl ?_ | refine xas rfl ?_ | refine xld rfl rfl (by with_reducible assumption) ?_ | refine xixn rfl rfl rfl (by omega) ?_ | refine xfa rfl rfl rfl ?_ | refine xln rfl rfl ?_ | refine xnil ?_ | refine xpk rfl rfl rfl rfl ?_ | refine xgy' rfl ?_ | refine xgn' rfl ?_ | refine xex rfl rfl ?_ | refine xnot rfl ?_ | refine xnc rfl ?_ | refine xeqn rfl rfl rfl ?_ | refine xnen rfl rfl rfl ?_ | refine xadd rfl rfl (by omega) (by omega) ?_ | refine xsub rfl rfl (by omega) (by omega) ?_ | refine xmul rfl rfl (by omega) (by omega) ?_ | refine xaddu rfl rfl (by omega) (by omega) ?_ | refine xsubu rfl rfl (by omega) (by omega) ?_ | refine xquo rfl rfl (by omega) (by omega) (by omega) ?_ | refine xrem rfl rfl (by omega) (by omega) (by omega) ?_ | refine xt_eql rfl rfl (by omega) ?_ | refine xf_eql rfl rfl (by omega) ?_ | refine xt_neq rfl rfl (by omega) ?_ | refine xf_neq rfl rfl (by omega) ?_ | refine xt_lss rfl rfl (by omega) ?_ | refine xf_lss rfl rfl (by omega) ?_ | refine xt_leq rfl rfl (by omega) ?_ | refine xf_leq rfl rfl (by omega) ?_ | refine xt_gtr rfl rfl (by omega) ?_ | refine xf_gtr rfl rfl (by omega) ?_ | refine xt_geq rfl rfl (by omega) ?_ | refine xf_geq rfl rfl (by omega) ?_ | refine tseq ?_ | refine tct rfl ?_ | refine tcf rfl ?_ | refine tskip ?_ | refine treg (by kernel_rfl) ?_ | refine tdraw (by kernel_rfl) (by decide +kernel) ?_ | refine texit rfl ?_ | refine xdu (op:=.rem) rfl rfl rfl (by omega) (by omega) (by omega) ?_ | refine xdu (op:=.quo) rfl rfl rfl (by omega) (by omega) (by omega) ?_ | refine xcvi rfl rfl rfl (by omega) (by omega) ?_ | refine xcvu rfl rfl rfl (by omega) (by omega) ?_ | refine xcvuw rfl rfl rfl ?_ | refine xcvby rfl rfl rfl ?_ | fail)
  rw [hki]
  refine tcut (α:=List Str × List Nat × Value × Value × NdV) (fun y=>[(0,.slice (some ⟨b,o,none⟩) zs.length c),(2,.pointer (some ⟨w.heap.size,0,none⟩)),(3,.pointer (some ⟨g3,0,none⟩)),(4,y.2.2.1),(5,y.2.2.2.1),(6,.int .i64 (i : Int)),(8,.string (su jp)),(12,.pointer (some ⟨g12,0,none⟩))]) (MkB w g3 g12 m u jp ve vn nv) ?_ ?_
  ·by_cases k1 : kk < 2
   ·have k1' : (kk : Int) < 2:=by omega
    refine goLU ?_
    refine xstb hN13.blk rfl rfl (by kernel_rfl) rfl rfl (fun w14 hB14 hF14=>?_)
    have hM14:=hM13.node hN13.blk hg12w hvn12 hF14
    have hN14:=hN13.put (x':={ xa with n:={ xa.n with kind:=1 } }) hF14 hB14 rfl
    refine goLU ?_
    refine xbs (vs:=stC jp) sl_strs rfl rfl (by decide) (by decide) (fun u hu=>by rw [List.mem_singleton.1 hu];rfl) (fun w15 hB15 hE15 hs15=>?_)
    have hM15:=hM14.ext' hE15
    refine xapz (B:=w.heap.size) (news:=stC jp) sl_strs rfl (by decide) rfl hM15.od rfl (blk_row hB15 (by decide) rfl) rfl (fun u hu=>by rw [List.mem_singleton.1 hu];rfl) (by unfold maxLen;omega) (by omega) hM15.ext.size (fun v16 w16 hO16 hF16 _=>?_)
    have hO16' : Ow stC 1 w16 w.heap.size 9 v16 (m.dirs ++ [jp]):=Ow.ext1 (l':=[jp]) (by simpa using hO16)
    refine goLU ?_
    refine tfin ⟨(m.dirs ++ [jp],m.files,v16,.slice Af m.files.length cf,_),sub ⟨rfl,rfl,rfl,rfl,rfl,rfl,rfl,rfl⟩,⟨hM15.dirs hF16 hO16',(hN14.ext hE15).away hF16 (Away.own hM15.od (by decide)) (fun e=>by obtain ⟨cs,hc⟩:=hM15.od.typ e;exact hc.ne_ (hN14.ext hE15).blk (by decide) rfl),mkStep_new hjoin hfi (by rw [hkk];exact .inl ⟨k1,by dsimp only;rw [hN13.n],rfl,rfl⟩),by have:=hF14.size;have:=hE15.size;have:=hF16.size;omega⟩⟩
   have k1' : ¬ (kk : Int) < 2:=by omega
   by_cases k2 : kk = 2 ∧ 0 < m.files.length
   ·have k2' : (kk : Int) = 2:=by omega
    have k3':=k2.2
    obtain ⟨fn,hfn⟩ : ∃ fn,fn = u / 2 % m.files.length:=⟨_,rfl⟩
    have hfnl : fn < m.files.length:=hfn ▸ Nat.mod_lt _ k3'
    have hfi2 : ((u : Int) / 2 % (m.files.length : Int)) = (fn : Int):=by rw [hfn];exact (Int.natCast_emod (u / 2) m.files.length).symm
    obtain ⟨gf,cf',ef,hgf,hgf2,_,_,hcf⟩:=OwnZ.go hM13.of k3'
    injection ef with e1 e2 e3
    subst e1;subst e3
    obtain ⟨fv,hfv⟩ : ∃ fv,m.files[fn]? = some fv:=⟨_,List.getElem?_eq_getElem hfnl⟩
    have hfvd : m.files.getD fn 0 = fv:=by rw [List.getD_eq_getElem?_getD,hfv];rfl
    have cfv : w13.drew.cell? ⟨gf,fn,none⟩ = some (.int .i64 (fv : Int)):=by
     have:=hcf fn (.int .i64 (fv : Int)) (by have:=flat_get naC_len hfv (j:=0) (u:=.int .i64 (fv : Int)) rfl;rwa [Nat.mul_one,Nat.add_zero] at this)
     exact this
    obtain ⟨Ae,ce,rfl,_,_⟩:=hM13.oe.form
    have c90 : w13.drew.cell? ⟨g3,0,none⟩ = some (.slice Ae m.es.length ce):=hM13.tre.cell 0
    obtain ⟨en,hen⟩ : ∃ en : En,en = ⟨jp,(fv : Int)⟩:=⟨_,rfl⟩
    refine goLU ?_
    refine tdrawC 14 [170] (fun w'=>w'.cell? ⟨g3,0,none⟩ = some (.slice Ae m.es.length ce)) (by kernel_rfl) (by decide +kernel) c90 ?_
    repeat' (first | refine xldh rfl rfl (fun _ h=>h) ?_ | refine xisq fn fn rfl rfl rfl hfi2 (by omega) hfnl ?_ | refine go1LU ?_ | fail)
    refine xbd (vs:=[(0,.string (su en.path)),(1,.int .i64 en.node)]) (cells:=(enC en).toArray) (by rw [hen];rfl) (by kernel_rfl) ?_
    refine xbz1 sl_ents rfl rfl (by decide) (by decide) (fun w14 hB14 hE14 hs14=>?_) (fun w' he=>he.cell c90)
    have hE1314 : Ext w13 w14:=(Fr.drew _ _).t hE14
    refine xnil ?_
    have hM14:=hM13.ext' hE1314
    refine xapz (B:=w.heap.size) (news:=enC en) sl_ents rfl (by decide) rfl hM14.oe rfl (blk_row hB14 (by decide) rfl) rfl (fun u hu=>enC_one [_] u (by simpa using hu)) (by unfold maxLen;omega) (by omega) hM14.ext.size (fun v15 w15 hO15 hF15 _=>?_)
    have hO15' : Ow enC 2 w15 w.heap.size 53 v15 (m.es ++ [en]):=Ow.ext1 (l':=[en]) (by simpa using hO15)
    have hM15:=hM14.ents hF15 hO15'
    obtain ⟨A15,c15,rfl,_,_⟩:=hO15'.form
    refine goLU ?_
    refine xstb (hM14.tre.fr hF15 (hM14.tre_ne hM14.oe (by decide))) rfl rfl (by kernel_rfl) rfl rfl (fun w16 hB16 hF16=>?_)
    refine goLU ?_
    have hst : mkStep m u = ⟨m.es ++ [en],m.ns,m.dirs,m.files⟩:=by
     rw [hen,← hfvd,hfn]
     exact mkStep_link hjoin hfi (by rw [hkk];exact k1) (by rw [hkk];exact k2)
    exact tfin ⟨⟨i + 1,⟨m.es ++ [en],m.ns,m.dirs,m.files⟩,_,_,_,_,nv⟩,sub ⟨rfl,rfl,rfl,rfl,rfl,rfl⟩,(hM15.tree (hM14.tre.fr hF15 (hM14.tre_ne hM14.oe (by decide))) hg3lt hB16 hF16).inv ⟨hlt,hlt2⟩ (by rw [hstep,hst]),(by show 25 - (i + 1) < 25 - i;omega)⟩
   have k2' : ¬ ((kk : Int) = 2 ∧ 0 < m.files.length):=by omega
   by_cases k3 : kk = 3
   ·have k3' : (kk : Int) = 3:=by omega
    have hjl : jp.length ≤ 100:=mayP_len (joinP_op hjoin).1
    repeat' (first | refine xuadd (a:=[46,46,47]) (b:=jp) rfl rfl (by simp only [List.length_cons,List.length_nil];omega) ?_ | refine go1LU ?_ | fail)
    refine xstb hN13.blk rfl rfl (by kernel_rfl) rfl rfl (fun w14 hB14 hF14=>?_)
    have hM14:=hM13.node hN13.blk hg12w hvn12 hF14
    refine goLU ?_
    refine xstb hB14 rfl rfl (by kernel_rfl) rfl rfl (fun w15 hB15 hF15=>?_)
    have hM15:=hM14.node hB14 hg12w hvn12 hF15
    have hN15:=hN13.put (x':={ xa with n:={ xa.n with kind:=3,target:=[46,46,47] ++ jp } }) (hF14.t hF15) hB15 rfl
    refine goLU ?_
    exact tfin ⟨(m.dirs,m.files,_,.slice Af m.files.length cf,_),sub ⟨rfl,rfl,rfl,rfl,rfl,rfl,rfl,rfl⟩,⟨hM15,hN15,mkStep_new hjoin hfi (by rw [hkk];exact .inr ⟨k1,k2,rfl,.inl ⟨k3,by dsimp only;rw [hN13.n],rfl⟩⟩),by have:=hF14.size;have:=hF15.size;omega⟩⟩
   have k3' : ¬ (kk : Int) = 3:=by omega
   by_cases k4 : kk = 4
   ·have k4' : (kk : Int) = 4:=by omega
    have z1 : (u : Int) % 300 = ((u % 300 : Nat) : Int):=by omega
    have z2 : (u : Int) / 2 % 300 = ((u / 2 % 300 : Nat) : Int):=by omega
    refine goLU ?_
    refine xstb hN13.blk rfl rfl (by kernel_rfl) rfl rfl (fun w14 hB14 hF14=>?_)
    have hM14:=hM13.node hN13.blk hg12w hvn12 hF14
    refine goLU ?_
    refine xstb hB14 rfl rfl (by kernel_rfl) rfl rfl (fun w15 hB15 hF15=>?_)
    have hM15:=hM14.node hB14 hg12w hvn12 hF15
    refine goLU ?_
    refine xstb hB15 rfl rfl (by kernel_rfl) rfl rfl (fun w16 hB16 hF16=>?_)
    have hM16:=hM15.node hB15 hg12w hvn12 hF16
    rw [z1,z2] at hB16
    have hN16:=hN13.put (x':={ xa with n:={ xa.n with kind:=4,major:=(u % 300 : Nat),minor:=(u / 2 % 300 : Nat) } }) ((hF14.t hF15).t hF16) hB16 rfl
    refine goLU ?_
    exact tfin ⟨(m.dirs,m.files,_,.slice Af m.files.length cf,_),sub ⟨rfl,rfl,rfl,rfl,rfl,rfl,rfl,rfl⟩,⟨hM16,hN16,mkStep_new hjoin hfi (by rw [hkk];exact .inr ⟨k1,k2,rfl,.inr (.inl ⟨k3,k4,by dsimp only;rw [hN13.n],rfl⟩)⟩),by have:=hF14.size;have:=hF15.size;have:=hF16.size;omega⟩⟩
   have k4' : ¬ (kk : Int) = 4:=by omega
   by_cases k5 : kk = 5
   ·have k5' : (kk : Int) = 5:=by omega
    refine goLU ?_
    refine xstb hN13.blk rfl rfl (by kernel_rfl) rfl rfl (fun w14 hB14 hF14=>?_)
    have hM14:=hM13.node hN13.blk hg12w hvn12 hF14
    have hN14:=hN13.put (x':={ xa with n:={ xa.n with kind:=6 } }) hF14 hB14 rfl
    refine goLU ?_
    exact tfin ⟨(m.dirs,m.files,_,.slice Af m.files.length cf,_),sub ⟨rfl,rfl,rfl,rfl,rfl,rfl,rfl,rfl⟩,⟨hM14,hN14,mkStep_new hjoin hfi (by rw [hkk];exact .inr ⟨k1,k2,rfl,.inr (.inr (.inl ⟨k3,k4,k5,by dsimp only;rw [hN13.n],rfl⟩))⟩),by have:=hF14.size;omega⟩⟩
   have k5' : ¬ (kk : Int) = 5:=by omega
   have hN13d:=hN13.ext (Fr.drew noneB w13)
   have z4 : (u : Int) % 1000 = ((u % 1000 : Nat) : Int):=by omega
   have z5 : (u : Int) / 4 % 2 * 600 = ((u / 4 % 2 * 600 : Nat) : Int):=by omega
   have hd1000:=decU_len (u % 1000)
   have hno:=mkNode_file u
   first | refine tblock ?_ | refine tblk ?_
   repeat' (first | refine xmv rfl ?_ | refine xas rfl ?_ | refine xld rfl rfl (by with_reducible assumption) ?_ | refine xixn rfl rfl rfl (by omega) ?_ | refine xfa rfl rfl rfl ?_ | refine xln rfl rfl ?_ | refine xnil ?_ | refine xpk rfl rfl rfl rfl ?_ | refine xgy' rfl ?_ | refine xgn' rfl ?_ | refine xex rfl rfl ?_ | refine xnot rfl ?_ | refine xnc rfl ?_ | refine xeqn rfl rfl rfl ?_ | refine xnen rfl rfl rfl ?_ | refine xadd rfl rfl (by omega) (by omega) ?_ | refine xsub rfl rfl (by omega) (by omega) ?_ | refine xmul rfl rfl (by omega) (by omega) ?_ | refine xaddu rfl rfl (by omega) (by omega) ?_ | refine xsubu rfl rfl (by omega) (by omega) ?_ | refine xquo rfl rfl (by omega) (by omega) (by omega) ?_ | refine xrem rfl rfl (by omega) (by omega) (by omega) ?_ | refine xt_eql rfl rfl (by omega) ?_ | refine xf_eql rfl rfl (by omega) ?_ | refine xt_neq rfl rfl (by omega) ?_ | refine xf_neq rfl rfl (by omega) ?_ | refine xt_lss rfl rfl (by omega) ?_ | refine xf_lss rfl rfl (by omega) ?_ | refine xt_leq rfl rfl (by omega) ?_ | refine xf_leq rfl rfl (by omega) ?_ | refine xt_gtr rfl rfl (by omega) ?_ | refine xf_gtr rfl rfl (by omega) ?_ | refine xt_geq rfl rfl (by omega) ?_ | refine xf_geq rfl rfl (by omega) ?_ | refine tseq ?_ | refine tskip ?_ | refine treg (by kernel_rfl) ?_ | refine tdraw (by kernel_rfl) (by decide +kernel) ?_ | refine texit rfl ?_ | refine xdu (op:=.rem) rfl rfl rfl (by omega) (by omega) (by omega) ?_ | refine xdu (op:=.quo) rfl rfl rfl (by omega) (by omega) (by omega) ?_ | refine xcvi rfl rfl rfl (by omega) (by omega) ?_ | refine xcvu rfl rfl rfl (by omega) (by omega) ?_ | refine xcvuw rfl rfl rfl ?_ | refine xcvby rfl rfl rfl ?_ | fail)
   refine tcf rfl ?_
   refine tseq ?_
   refine tcut (α:=Unit) (fun _=>[(0,.slice (some ⟨b,o,none⟩) zs.length c),(2,.pointer (some ⟨w.heap.size,0,none⟩)),(3,.pointer (some ⟨g3,0,none⟩)),(4,.slice (some ⟨gd,0,none⟩) m.dirs.length cd),(5,.slice Af m.files.length cf),(6,.int .i64 (i : Int)),(7,.int .u64 (u : Int)),(8,.string (su jp)),(12,.pointer (some ⟨g12,0,none⟩)),(13,.int .u64 (kk : Int)),(161,.bool false)]) (fun _ w'=>w13 = w') ?_ ?_
   ·by_cases h22 : kk = 2
    ·have h23 : (kk : Int) = 2:=by omega
     have h24 : (m.files.length : Int) = 0:=by omega
     refine goLU ?_
     exact tfin ⟨(),sub ⟨rfl,rfl,rfl,rfl,rfl,rfl,rfl,rfl,rfl,rfl,rfl⟩,rfl⟩
    ·have h23 : ¬ (kk : Int) = 2:=by omega
     refine goLU ?_
     exact tfin ⟨(),sub ⟨rfl,rfl,rfl,rfl,rfl,rfl,rfl,rfl,rfl,rfl,rfl⟩,rfl⟩
   rintro _ _ rfl
   refine goLU ?_
   refine tcut (α:=NdV) (fun _=>[(0,.slice (some ⟨b,o,none⟩) zs.length c),(2,.pointer (some ⟨w.heap.size,0,none⟩)),(3,.pointer (some ⟨g3,0,none⟩)),(4,.slice (some ⟨gd,0,none⟩) m.dirs.length cd),(5,.slice Af m.files.length cf),(6,.int .i64 (i : Int)),(7,.int .u64 (u : Int)),(8,.string (su jp)),(12,.pointer (some ⟨g12,0,none⟩))]) (fun x w'=>MkN g12 x ((writeN (mkNode u) (u / 4 % 2 * 600 : Nat) (mkText (u % 1000))).1) w' ∧ MkM w g3 m (.slice (some ⟨gd,0,none⟩) m.dirs.length cd) (.slice Af m.files.length cf) ve vn nv w' ∧ g12 < w'.heap.size) ?_ ?_
   ·refine tdrawL 0 9 [] noH (by kernel_rfl) (by decide +kernel) trivial ?_
    refine xnil ?_
    refine ⟨?_,?_⟩
    ·exact y0
    ·exact y0
   obtain ⟨n1,hn1⟩ : ∃ n1,n1 = (writeN (mkNode u) (u / 4 % 2 * 600 : Nat) (mkText (u % 1000))).1:=⟨_,rfl⟩
   have hok1 : nodeOK n1 = true:=by rw [hn1];exact writeN_ok hno _ _
   rw [← hn1]
   rintro x1 w14 ⟨hN14,hM14,hg14⟩
   have hsm1:=node_small hok1
   repeat' (first | refine xdec (op:=.eql) (decide (u % 2 = 0)) rfl rfl rfl (by rw [decide_eq_true_iff];omega) ?_ | refine xmv rfl ?_ | refine xas rfl ?_ | refine xld rfl rfl (by with_reducible assumption) ?_ | refine xixn rfl rfl rfl (by omega) ?_ | refine xfa rfl rfl rfl ?_ | refine xln rfl rfl ?_ | refine xnil ?_ | refine xpk rfl rfl rfl rfl ?_ | refine xgy' rfl ?_ | refine xgn' rfl ?_ | refine xex rfl rfl ?_ | refine xnot rfl ?_ | refine xnc rfl ?_ | refine xeqn rfl rfl rfl ?_ | refine xnen rfl rfl rfl ?_ | refine xadd rfl rfl (by omega) (by omega) ?_ | refine xsub rfl rfl (by omega) (by omega) ?_ | refine xmul rfl rfl (by omega) (by omega) ?_ | refine xaddu rfl rfl (by omega) (by omega) ?_ | refine xsubu rfl rfl (by omega) (by omega) ?_ | refine xquo rfl rfl (by omega) (by omega) (by omega) ?_ | refine xrem rfl rfl (by omega) (by omega) (by omega) ?_ | refine xt_eql rfl rfl (by omega) ?_ | refine xf_eql rfl rfl (by omega) ?_ | refine xt_neq rfl rfl (by omega) ?_ | refine xf_neq rfl rfl (by omega) ?_ | refine xt_lss rfl rfl (by omega) ?_ | refine xf_lss rfl rfl (by omega) ?_ | refine xt_leq rfl rfl (by omega) ?_ | refine xf_leq rfl rfl (by omega) ?_ | refine xt_gtr rfl rfl (by omega) ?_ | refine xf_gtr rfl rfl (by omega) ?_ | refine xt_geq rfl rfl (by omega) ?_ | refine xf_geq rfl rfl (by omega) ?_ | refine tseq ?_ | refine tskip ?_ | refine treg (by kernel_rfl) ?_ | refine tdraw (by kernel_rfl) (by decide +kernel) ?_ | refine texit rfl ?_ | refine xdu (op:=.rem) rfl rfl rfl (by omega) (by omega) (by omega) ?_ | refine xdu (op:=.quo) rfl rfl rfl (by omega) (by omega) (by omega) ?_ | refine xcvi rfl rfl rfl (by omega) (by omega) ?_ | refine xcvu rfl rfl rfl (by omega) (by omega) ?_ | refine xcvuw rfl rfl rfl ?_ | refine xcvby rfl rfl rfl ?_ | fail)
   refine tcut (α:=NdV) (fun _=>[(0,.slice (some ⟨b,o,none⟩) zs.length c),(2,.pointer (some ⟨w.heap.size,0,none⟩)),(3,.pointer (some ⟨g3,0,none⟩)),(4,.slice (some ⟨gd,0,none⟩) m.dirs.length cd),(5,.slice Af m.files.length cf),(6,.int .i64 (i : Int)),(7,.int .u64 (u : Int)),(8,.string (su jp)),(12,.pointer (some ⟨g12,0,none⟩))]) (fun x w'=>MkN g12 x (if u % 2 = 0 then (writeN n1 (u % 90 * 10 : Nat) jp).1 else n1) w' ∧ MkM w g3 m (.slice (some ⟨gd,0,none⟩) m.dirs.length cd) (.slice Af m.files.length cf) ve vn nv w' ∧ g12 < w'.heap.size) ?_ ?_
   ·by_cases h2 : u % 2 = 0
    case neg=>
     rw [decide_eq_false h2,if_neg h2]
     refine goLU ?_
     exact tfin ⟨x1,sub ⟨rfl,rfl,rfl,rfl,rfl,rfl,rfl,rfl,rfl⟩,hN14,hM14,hg14⟩
    rw [decide_eq_true h2,if_pos h2]
    have z6 : (u : Int) % 90 * 10 = ((u % 90 * 10 : Nat) : Int):=by omega
    have hjl : jp.length ≤ 100:=mayP_len (joinP_op hjoin).1
    repeat' (first | refine xlda (t:=47) hN14.blk rfl rfl ?_ | refine go1LU ?_ | fail)
    rw [z6]
    refine xcallE rfl rfl (rwrite_does w14 x1 (u % 90 * 10 : Nat) jp hN14.k.i (by rw [hN14.n];omega) (by rw [hN14.n];omega) (by omega)) (fun r w15 h15=>?_)
    obtain ⟨xe,rfl,hie,hne,hE15,hte⟩:=h15
    refine goLU ?_
    refine xsta (hN14.blk.ext hE15) rfl rfl (by kernel_rfl) rfl (one_cells (one_nd hie)) (fun w16 hB16 hF16=>?_)
    refine goLU ?_
    rw [hN14.n] at hne
    exact tfin ⟨xe,sub ⟨rfl,rfl,rfl,rfl,rfl,rfl,rfl,rfl,rfl⟩,hN14.set hE15 ⟨hie,hte hN14.k.t⟩ hB16 hF16 hne,(hM14.ext' hE15).node (hN14.blk.ext hE15) hg12w hvn12 hF16,by have:=hE15.size;have:=hF16.size;omega⟩
   obtain ⟨n2,hn2⟩ : ∃ n2,n2 = (if u % 2 = 0 then (writeN n1 (u % 90 * 10 : Nat) jp).1 else n1):=⟨_,rfl⟩
   have hok2 : nodeOK n2 = true:=by
    rw [hn2]
    split
    ·exact writeN_ok hok1 _ _
    ·exact hok1
   rw [← hn2]
   rintro x2 w15 ⟨hN15,hM15,hg15⟩
   have hsm2:=node_small hok2
   have hk2 : n2.kind = 2:=by
    rw [hn2]
    split
    ·rw [writeN_kind,hn1,writeN_kind];rfl
    ·rw [hn1,writeN_kind];rfl
   have hfile : mkFile u jp (mkNode u) = if u % 5 = 0 then (cutN n2 (n2.size + (u % 7 * 100 : Nat))).1 else n2:=by
    unfold mkFile
    dsimp only
    rw [← hn1,← hn2]
   have hsz2:=(file_pc (node_file hok2 hk2)).2.2
   repeat' (first | refine xdec (op:=.eql) (decide (u % 5 = 0)) rfl rfl rfl (by rw [decide_eq_true_iff];omega) ?_ | refine xmv rfl ?_ | refine xas rfl ?_ | refine xld rfl rfl (by with_reducible assumption) ?_ | refine xixn rfl rfl rfl (by omega) ?_ | refine xfa rfl rfl rfl ?_ | refine xln rfl rfl ?_ | refine xnil ?_ | refine xpk rfl rfl rfl rfl ?_ | refine xgy' rfl ?_ | refine xgn' rfl ?_ | refine xex rfl rfl ?_ | refine xnot rfl ?_ | refine xnc rfl ?_ | refine xeqn rfl rfl rfl ?_ | refine xnen rfl rfl rfl ?_ | refine xadd rfl rfl (by omega) (by omega) ?_ | refine xsub rfl rfl (by omega) (by omega) ?_ | refine xmul rfl rfl (by omega) (by omega) ?_ | refine xaddu rfl rfl (by omega) (by omega) ?_ | refine xsubu rfl rfl (by omega) (by omega) ?_ | refine xquo rfl rfl (by omega) (by omega) (by omega) ?_ | refine xrem rfl rfl (by omega) (by omega) (by omega) ?_ | refine xt_eql rfl rfl (by omega) ?_ | refine xf_eql rfl rfl (by omega) ?_ | refine xt_neq rfl rfl (by omega) ?_ | refine xf_neq rfl rfl (by omega) ?_ | refine xt_lss rfl rfl (by omega) ?_ | refine xf_lss rfl rfl (by omega) ?_ | refine xt_leq rfl rfl (by omega) ?_ | refine xf_leq rfl rfl (by omega) ?_ | refine xt_gtr rfl rfl (by omega) ?_ | refine xf_gtr rfl rfl (by omega) ?_ | refine xt_geq rfl rfl (by omega) ?_ | refine xf_geq rfl rfl (by omega) ?_ | refine tseq ?_ | refine tskip ?_ | refine treg (by kernel_rfl) ?_ | refine tdraw (by kernel_rfl) (by decide +kernel) ?_ | refine texit rfl ?_ | refine xdu (op:=.rem) rfl rfl rfl (by omega) (by omega) (by omega) ?_ | refine xdu (op:=.quo) rfl rfl rfl (by omega) (by omega) (by omega) ?_ | refine xcvi rfl rfl rfl (by omega) (by omega) ?_ | refine xcvu rfl rfl rfl (by omega) (by omega) ?_ | refine xcvuw rfl rfl rfl ?_ | refine xcvby rfl rfl rfl ?_ | fail)
   refine tcut (α:=NdV) (fun _=>[(0,.slice (some ⟨b,o,none⟩) zs.length c),(2,.pointer (some ⟨w.heap.size,0,none⟩)),(3,.pointer (some ⟨g3,0,none⟩)),(4,.slice (some ⟨gd,0,none⟩) m.dirs.length cd),(5,.slice Af m.files.length cf),(6,.int .i64 (i : Int)),(7,.int .u64 (u : Int)),(8,.string (su jp)),(12,.pointer (some ⟨g12,0,none⟩))]) (fun x w'=>MkN g12 x (mkFile u jp (mkNode u)) w' ∧ MkM w g3 m (.slice (some ⟨gd,0,none⟩) m.dirs.length cd) (.slice Af m.files.length cf) ve vn nv w' ∧ g12 < w'.heap.size) ?_ ?_
   ·rw [hfile]
    by_cases h5 : u % 5 = 0
    case neg=>
     rw [decide_eq_false h5,if_neg h5]
     refine goLU ?_
     exact tfin ⟨x2,sub ⟨rfl,rfl,rfl,rfl,rfl,rfl,rfl,rfl,rfl⟩,hN15,hM15,hg15⟩
    rw [decide_eq_true h5,if_pos h5]
    have z7 : n2.size + (u : Int) % 7 * 100 = n2.size + ((u % 7 * 100 : Nat) : Int):=by omega
    have k7 : w15.cell? ⟨g12,7,none⟩ = some (.int .i64 n2.size):=by
     have:=hN15.blk.cell 7
     rw [this,← hN15.n];rfl
    repeat' (first | refine xlda (t:=47) hN15.blk rfl rfl ?_ | refine go1LU ?_ | fail)
    rw [z7]
    refine xcallE rfl rfl (rcutn_does w15 x2 (n2.size + (u % 7 * 100 : Nat)) hN15.k.i (by rw [hN15.n];omega) (by rw [hN15.n];omega)) (fun r w16 h16=>?_)
    obtain ⟨xe,rfl,hie,hne,hE16,hte⟩:=h16
    refine goLU ?_
    refine xsta (hN15.blk.ext hE16) rfl rfl (by kernel_rfl) rfl (one_cells (one_nd hie)) (fun w17 hB17 hF17=>?_)
    refine goLU ?_
    rw [hN15.n] at hne
    exact tfin ⟨xe,sub ⟨rfl,rfl,rfl,rfl,rfl,rfl,rfl,rfl,rfl⟩,hN15.set hE16 ⟨hie,hte hN15.k.t⟩ hB17 hF17 hne,(hM15.ext' hE16).node (hN15.blk.ext hE16) hg12w hvn12 hF17,by have:=hE16.size;have:=hF17.size;omega⟩
   rintro x3 w16 ⟨hN16,hM16,hg16⟩
   have hnvl : nv.length = m.ns.length:=by have:=congrArg List.length hM16.nd;simpa using this
   obtain ⟨An,cn,rfl,_,_⟩:=hM16.on.form
   have k31 : w16.cell? ⟨g3,1,none⟩ = some (.slice An m.ns.length cn):=by rw [← hnvl];exact hM16.tre.cell 1
   refine goLU ?_
   refine xbs (vs:=naC m.ns.length) sl_ints rfl rfl (by decide) (by decide) (fun u hu=>by rw [List.mem_singleton.1 hu];rfl) (fun w17 hB17 hE17 hs17=>?_)
   have hM17:=hM16.ext' hE17
   refine xapz (B:=w.heap.size) (news:=naC m.ns.length) sl_ints rfl (by decide) rfl hM17.of rfl (blk_row hB17 (by decide) rfl) rfl (fun u hu=>by rw [List.mem_singleton.1 hu];rfl) (by unfold maxLen;omega) (by omega) hM17.ext.size (fun v18 w18 hO18 hF18 _=>?_)
   have hO18' : Ow naC 1 w18 w.heap.size 3 v18 (m.files ++ [m.ns.length]):=Ow.ext1 (l':=[m.ns.length]) (by simpa using hO18)
   refine goLU ?_
   refine tfin ⟨(m.dirs,m.files ++ [m.ns.length],.slice (some ⟨gd,0,none⟩) m.dirs.length cd,v18,x3),sub ⟨rfl,rfl,rfl,rfl,rfl,rfl,rfl,rfl⟩,⟨hM17.fils hF18 hO18',?_,mkStep_new hjoin hfi (by rw [hkk];exact .inr ⟨k1,k2,rfl,.inr (.inr (.inr ⟨k3,k4,k5,hN16.n,rfl⟩))⟩),by have:=hE17.size;have:=hF18.size;omega⟩⟩
   have:=(hN16.ext hE17).away hF18 (Away.own hM17.of (by decide)) (fun e=>by obtain ⟨cs,hc⟩:=hM17.of.typ e;exact hc.ne_ (hN16.ext hE17).blk (by decide) rfl)
   exact ⟨this.blk,this.k,rfl⟩
  rintro ⟨ds,fs,va',vf',xa'⟩ w17 ⟨hM17,hN17,hst17,hg17⟩
  dsimp only at hM17 hN17 hst17 hg17 ⊢
  have hnvl : nv.length = m.ns.length:=by have:=congrArg List.length hM17.nd;simpa using this
  have hml3:=hok.len
  obtain ⟨Ae,ce,rfl,_,_⟩:=hM17.oe.form
  obtain ⟨An,cn,rfl,_,_⟩:=hM17.on.form
  have k30 : w17.cell? ⟨g3,0,none⟩ = some (.slice Ae m.es.length ce):=hM17.tre.cell 0
  have k31 : w17.cell? ⟨g3,1,none⟩ = some (.slice An m.ns.length cn):=by rw [← hnvl];exact hM17.tre.cell 1
  obtain ⟨en,hen⟩ : ∃ en : En,en = ⟨jp,(m.ns.length : Int)⟩:=⟨_,rfl⟩
  refine goL ?_
  refine xbd (vs:=[(0,.string (su en.path)),(1,.int .i64 en.node)]) (cells:=(enC en).toArray) (by rw [hen];rfl) (by kernel_rfl) ?_
  refine xbz1 sl_ents rfl rfl (by decide) (by decide) (fun w18 hB18 hE18 hs18=>?_)
  have hM18:=hM17.ext' hE18
  have hN18:=hN17.ext hE18
  refine xapz (B:=w.heap.size) (news:=enC en) sl_ents rfl (by decide) rfl hM18.oe rfl (blk_row hB18 (by decide) rfl) rfl (fun u hu=>enC_one [_] u (by simpa using hu)) (by unfold maxLen;dsimp only;omega) (by dsimp only;omega) hM18.ext.size (fun v19 w19 hO19 hF19 _=>?_)
  have hO19' : Ow enC 2 w19 w.heap.size 53 v19 (m.es ++ [en]):=Ow.ext1 (l':=[en]) (by simpa using hO19)
  have hQ19:=hM18.ents hF19 hO19'
  have ht19:=hM18.tre.fr hF19 (hM18.tre_ne hM18.oe (by decide))
  have hN19:=hN18.away hF19 (Away.own hM18.oe (by decide)) (fun e=>by obtain ⟨cs,hc⟩:=hM18.oe.typ e;exact hc.ne_ hN18.blk (by decide) rfl)
  obtain ⟨A19,c19,rfl,_,_⟩:=hO19'.form
  refine goL ?_
  refine xstb ht19 rfl rfl (by kernel_rfl) rfl rfl (fun w20 hB20 hF20=>?_)
  have hM20:=hQ19.tree ht19 hg3lt hB20 hF20
  have hN20:=hN19.away hF20 (Away.one ht19 (by decide)) (fun e=>hN19.blk.ne_ ht19 (by decide) e)
  have k41 : w20.cell? ⟨g3,1,none⟩ = some (.slice An nv.length cn):=hM20.tre.cell 1
  refine goL ?_
  refine xlda (t:=47) hN20.blk rfl rfl ?_
  refine xbz1 sl_nds rfl rfl (by decide) (by decide) (fun w21 hB21 hE21 hs21=>?_)
  have hM21:=hM20.ext' hE21
  have hN21:=hN20.ext hE21
  refine xapz (B:=w.heap.size) (news:=ndC xa') sl_nds rfl (by decide) rfl hM21.on rfl (blk_row hB21 (by decide) rfl) rfl (ndC_one hN21.k.i) (by unfold maxLen;omega) (by omega) hM21.ext.size (fun v22 w22 hO22 hF22 _=>?_)
  have hO22' : Ow ndC 12 w22 w.heap.size 47 v22 (nv ++ [xa']):=Ow.ext1 (l':=[xa']) (by simpa using hO22)
  have hQ22:=hM21.nods hF22 hO22' (fun y hy=>by
   rcases List.mem_append.1 hy with hy | hy
   ·exact .inl hy
   ·rw [List.mem_singleton.1 hy];exact .inr hN21.k)
  have ht22:=hM21.tre.fr hF22 (hM21.tre_ne hM21.on (by decide))
  obtain ⟨A22,c22,rfl,_,_⟩:=hO22'.form
  refine goL ?_
  refine xstb ht22 rfl rfl (by kernel_rfl) rfl rfl (fun w23 hB23 hF23=>?_)
  have hM23:=hQ22.tree ht22 hg3lt hB23 hF23
  refine goL ?_
  have hmap : (nv ++ [xa']).map (·.n) = m.ns ++ [xa'.n]:=by rw [List.map_append,hM17.nd];rfl
  refine tfin ⟨⟨i + 1,_,va',vf',.slice A19 (m.es ++ [en]).length c19,.slice A22 (nv ++ [xa']).length c22,nv ++ [xa']⟩,sub ⟨rfl,rfl,rfl,rfl,rfl,rfl⟩,hM23.inv ⟨hlt,hlt2⟩ ?_,(by show 25 - (i + 1) < 25 - i;omega)⟩
  rw [hstep,hst17,hmap,hen]
 ·have hend : (zs.take i).map uN = (zs.map uN).take 25:=by
   rw [← List.map_take]
   congr 1
   by_cases h1 : i < zs.length
   ·rw [show i = 25 by omega]
   ·rw [show i = zs.length by omega,List.take_length,List.take_of_length_le (by omega)]
  rw [hend] at hIm
  have hall : m = mkAll (zs.map uN):=hIm
  have hraw : (⟨m.es,m.ns⟩ : Tre) = mkRaw (zs.map uN):=by rw [hall];rfl
  have hnorm:=mkT_norm (zs.map uN)
  rw [← hraw] at hnorm
  have htr : TrV w7 ve vn nv ⟨m.es,m.ns⟩:=⟨hI.oe.rw,hI.on.rw,fun y hy=>(hI.ndk y hy).i,hI.nd⟩
  have hts : TsOK ⟨m.es,m.ns⟩:=⟨fun n hn=>by have:=node_small (hok.node n hn);omega,fun n hn=>by have:=node_small (hok.node n hn);omega,fun e he=>by have:=mayP_len (hok.path e he);omega⟩
  have hml3:=hok.len
  have htre7 : Blk w7 g3 25 #[ve,vn]:=hI.tre
  have hoe7 : Ow enC 2 w7 w.heap.size 53 ve m.es:=hI.oe
  have hon7 : Ow ndC 12 w7 w.heap.size 47 vn nv:=hI.on
  obtain ⟨Ae,ce,rfl,_,_⟩:=hoe7.form
  obtain ⟨An,cn,rfl,_,_⟩:=hon7.form
  have hres7:=hI.res
  have hext7:=hI.ext
  by_cases h1 : i < zs.length
  ·have h2 : ¬ i < 25:=fun h=>hlt ⟨h1,h⟩
   exact y21
  ·exact y21
end
end Go.Proofs.YtbpmlbjapapoaaaGreatDoor.Eng
