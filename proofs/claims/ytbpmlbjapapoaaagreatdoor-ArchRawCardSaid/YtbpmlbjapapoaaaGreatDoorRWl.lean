/-
  Parts of the proof: Wl.
-/
import Derived.Test.YtbpmlbjapapoaaaGreatDoorRB5
set_option maxRecDepth 100000
set_option maxHeartbeats 64000000
namespace Go.Proofs.YtbpmlbjapapoaaaGreatDoor.Eng
open Go.RowKit
section
attribute [local irreducible] xs T
def mtEq (n m : Nd) : Prop:=n.mode = m.mode ∧ n.uid = m.uid ∧ n.gid = m.gid ∧ n.time = m.time ∧ n.attrs = m.attrs ∧ n.acl = m.acl
theorem nd_eq {n m : Nd} (h0 : n.kind = m.kind) (hm : mtEq n m) (h1 : n.size = m.size) (h2 : n.data = m.data) (h3 : n.target = m.target) (h4 : n.major = m.major) (h5 : n.minor = m.minor) : n = m:=by
 obtain ⟨a1,a2,a3,a4,a5,a6⟩:=hm
 obtain ⟨⟩:=n
 obtain ⟨⟩:=m
 simp_all
theorem aclsame_does (w : World) (v v' : Value) (l l' : List Ac) (hv : Rw acC w v l) (hv' : Rw acC w v' l') : Does Tryz.prog 159 #[v,v'] w fun r w'=>r = .bool (decide (l = l')) ∧ Ext w w':=by
 refine does2 Tryz.func159 rfl (by kernel_rfl) ?_
 refine goL ?_
 refine xcallE rfl rfl (equal_ac w v v' l l' hv hv') (fun r w1 h1=>?_)
 obtain ⟨rfl,hE⟩:=h1
 refine goL ?_
 exact y6
theorem diffmeta_does (w : World) (x y : NdV) (hx : NdIn w x) (hy : NdIn w y) : Does Tryz.prog 116 #[.agg (mtC x).toArray,.agg (mtC y).toArray] w fun r w'=>∃ s,r = .string (su s) ∧ (s = [] ↔ mtEq x.n y.n) ∧ Ext w w':=by
 refine does2 Tryz.func116 rfl (by kernel_rfl) ?_
 refine goL ?_
 refine xbox rfl (fun w1 hB1 hE1 hs1=>?_)
 refine goL ?_
 refine xbox rfl (fun w2 hB2 hE2 hs2=>?_)
 have hE:=hE1.t hE2
 have hA : Blk w2 w.heap.size 44 (mtC x).toArray:=hB1.ext hE2
 have hB : Blk w2 w1.heap.size 44 (mtC y).toArray:=hB2
 have a0 : w2.cell? ⟨w.heap.size,0,none⟩ = some (.int .i64 x.n.mode):=hA.cell 0
 have a1 : w2.cell? ⟨w.heap.size,1,none⟩ = some (.int .i64 x.n.uid):=hA.cell 1
 have a2 : w2.cell? ⟨w.heap.size,2,none⟩ = some (.int .i64 x.n.gid):=hA.cell 2
 have a3 : w2.cell? ⟨w.heap.size,3,none⟩ = some (.int .i64 x.n.time):=hA.cell 3
 have a4 : w2.cell? ⟨w.heap.size,4,none⟩ = some x.va:=hA.cell 4
 have b0 : w2.cell? ⟨w1.heap.size,0,none⟩ = some (.int .i64 y.n.mode):=hB.cell 0
 have b1 : w2.cell? ⟨w1.heap.size,1,none⟩ = some (.int .i64 y.n.uid):=hB.cell 1
 have b2 : w2.cell? ⟨w1.heap.size,2,none⟩ = some (.int .i64 y.n.gid):=hB.cell 2
 have b3 : w2.cell? ⟨w1.heap.size,3,none⟩ = some (.int .i64 y.n.time):=hB.cell 3
 have b4 : w2.cell? ⟨w1.heap.size,4,none⟩ = some y.va:=hB.cell 4
 by_cases e0 : x.n.mode = y.n.mode
 case neg=>
  refine goL ?_
  exact tret1 rfl rfl ⟨[109,111,100,101],rfl,⟨fun h=>(by cases h),fun h=>absurd h.1 e0⟩,hE⟩
 by_cases e1 : x.n.uid = y.n.uid
 case neg=>
  refine goL ?_
  exact tret1 rfl rfl ⟨[117,105,100],rfl,⟨fun h=>(by cases h),fun h=>absurd h.2.1 e1⟩,hE⟩
 by_cases e2 : x.n.gid = y.n.gid
 case neg=>
  refine goL ?_
  exact tret1 rfl rfl ⟨[103,105,100],rfl,⟨fun h=>(by cases h),fun h=>absurd h.2.2.1 e2⟩,hE⟩
 by_cases e3 : x.n.time = y.n.time
 case neg=>
  refine goL ?_
  exact tret1 rfl rfl ⟨[116,105,109,101],rfl,⟨fun h=>(by cases h),fun h=>absurd h.2.2.2.1 e3⟩,hE⟩
 refine goL ?_
 refine xcallE rfl rfl (equal_att w2 x.va y.va x.n.attrs y.n.attrs (hx.a.ext hE) (hy.a.ext hE)) (fun r w3 h3=>?_)
 obtain ⟨rfl,hE3⟩:=h3
 by_cases e4 : x.n.attrs = y.n.attrs
 case neg=>
  exact y44
 rw [decide_eq_true e4]
 have a5 : w3.cell? ⟨w.heap.size,5,none⟩ = some x.vc:=(hA.ext hE3).cell 5
 have b5 : w3.cell? ⟨w1.heap.size,5,none⟩ = some y.vc:=(hB.ext hE3).cell 5
 refine goL ?_
 refine xcallE rfl rfl (aclsame_does w3 x.vc y.vc x.n.acl y.n.acl (hx.c.ext (hE.t hE3)) (hy.c.ext (hE.t hE3))) (fun r w4 h4=>?_)
 obtain ⟨rfl,hE4⟩:=h4
 by_cases e5 : x.n.acl = y.n.acl
 case neg=>
  exact y45
 exact y67
theorem rdiffmeta_does (w : World) (x y : NdV) (hx : NdIn w x) (hy : NdIn w y) : Does Tryz.prog 86 #[.agg (mtC x).toArray,.agg (mtC y).toArray] w fun r w'=>∃ s,r = .string (su s) ∧ (s = [] ↔ mtEq x.n y.n) ∧ Ext w w':=by
 refine does2 Tryz.func86 rfl (by kernel_rfl) ?_
 refine goL ?_
 refine xbox rfl (fun w1 hB1 hE1 hs1=>?_)
 refine goL ?_
 refine xbox rfl (fun w2 hB2 hE2 hs2=>?_)
 have hE:=hE1.t hE2
 have hA : Blk w2 w.heap.size 44 (mtC x).toArray:=hB1.ext hE2
 have hB : Blk w2 w1.heap.size 44 (mtC y).toArray:=hB2
 have a0 : w2.cell? ⟨w.heap.size,0,none⟩ = some (.int .i64 x.n.mode):=hA.cell 0
 have a1 : w2.cell? ⟨w.heap.size,1,none⟩ = some (.int .i64 x.n.uid):=hA.cell 1
 have a2 : w2.cell? ⟨w.heap.size,2,none⟩ = some (.int .i64 x.n.gid):=hA.cell 2
 have a3 : w2.cell? ⟨w.heap.size,3,none⟩ = some (.int .i64 x.n.time):=hA.cell 3
 have a4 : w2.cell? ⟨w.heap.size,4,none⟩ = some x.va:=hA.cell 4
 have b0 : w2.cell? ⟨w1.heap.size,0,none⟩ = some (.int .i64 y.n.mode):=hB.cell 0
 have b1 : w2.cell? ⟨w1.heap.size,1,none⟩ = some (.int .i64 y.n.uid):=hB.cell 1
 have b2 : w2.cell? ⟨w1.heap.size,2,none⟩ = some (.int .i64 y.n.gid):=hB.cell 2
 have b3 : w2.cell? ⟨w1.heap.size,3,none⟩ = some (.int .i64 y.n.time):=hB.cell 3
 have b4 : w2.cell? ⟨w1.heap.size,4,none⟩ = some y.va:=hB.cell 4
 by_cases e0 : x.n.mode = y.n.mode
 case neg=>
  refine goL ?_
  exact tret1 rfl rfl ⟨[109,111,100,101],rfl,⟨fun h=>(by cases h),fun h=>absurd h.1 e0⟩,hE⟩
 by_cases e1 : x.n.uid = y.n.uid
 case neg=>
  refine goL ?_
  exact tret1 rfl rfl ⟨[117,105,100],rfl,⟨fun h=>(by cases h),fun h=>absurd h.2.1 e1⟩,hE⟩
 by_cases e2 : x.n.gid = y.n.gid
 case neg=>
  refine goL ?_
  exact tret1 rfl rfl ⟨[103,105,100],rfl,⟨fun h=>(by cases h),fun h=>absurd h.2.2.1 e2⟩,hE⟩
 by_cases e3 : x.n.time = y.n.time
 case neg=>
  refine goL ?_
  exact tret1 rfl rfl ⟨[116,105,109,101],rfl,⟨fun h=>(by cases h),fun h=>absurd h.2.2.2.1 e3⟩,hE⟩
 refine goL ?_
 refine xcallE rfl rfl (requal_att w2 x.va y.va x.n.attrs y.n.attrs (hx.a.ext hE) (hy.a.ext hE)) (fun r w3 h3=>?_)
 obtain ⟨rfl,hE3⟩:=h3
 by_cases e4 : x.n.attrs = y.n.attrs
 case neg=>
  exact y44
 rw [decide_eq_true e4]
 have a5 : w3.cell? ⟨w.heap.size,5,none⟩ = some x.vc:=(hA.ext hE3).cell 5
 have b5 : w3.cell? ⟨w1.heap.size,5,none⟩ = some y.vc:=(hB.ext hE3).cell 5
 refine goL ?_
 refine xcallE rfl rfl (requal_ac w3 x.vc y.vc x.n.acl y.n.acl (hx.c.ext (hE.t hE3)) (hy.c.ext (hE.t hE3))) (fun r w4 h4=>?_)
 obtain ⟨rfl,hE4⟩:=h4
 by_cases e5 : x.n.acl = y.n.acl
 case neg=>
  exact y45
 exact y67
theorem diff_does (w : World) (x y : NdV) (hx : NdIn w x) (hy : NdIn w y) : Does Tryz.prog 85 #[.agg (ndC x).toArray,.agg (ndC y).toArray] w fun r w'=>∃ s,r = .string (su s) ∧ (s = [] ↔ x.n = y.n) ∧ Ext w w':=by
 refine does2 Tryz.func85 rfl (by kernel_rfl) ?_
 refine goL ?_
 refine xbox rfl (fun w1 hB1 hE1 hs1=>?_)
 refine goL ?_
 refine xbox rfl (fun w2 hB2 hE2 hs2=>?_)
 have hE:=hE1.t hE2
 have hA : Blk w2 w.heap.size 47 (ndC x).toArray:=hB1.ext hE2
 have hB : Blk w2 w1.heap.size 47 (ndC y).toArray:=hB2
 have a0 : w2.cell? ⟨w.heap.size,0,none⟩ = some (.int .i64 x.n.kind):=hA.cell 0
 have b0 : w2.cell? ⟨w1.heap.size,0,none⟩ = some (.int .i64 y.n.kind):=hB.cell 0
 have hmx : ∀ j u,(mtC x)[j]? = some u → w2.cell? ⟨w.heap.size,0 + 1 + j,none⟩ = some u:=fun j u hu=>by rw [Nat.zero_add,hA.cell];exact mt_get hu
 have hmy : ∀ j u,(mtC y)[j]? = some u → w2.cell? ⟨w1.heap.size,0 + 1 + j,none⟩ = some u:=fun j u hu=>by rw [Nat.zero_add,hB.cell];exact mt_get hu
 by_cases e0 : x.n.kind = y.n.kind
 case neg=>
  refine goL ?_
  exact tret1 rfl rfl ⟨[107,105,110,100],rfl,⟨fun h=>(by cases h),fun h=>absurd (by rw [h]) e0⟩,hE⟩
 refine goL ?_
 refine xldz (cs:=mtC x) rfl rfl hmx ?_
 refine goL ?_
 refine xldz (cs:=mtC y) rfl rfl hmy ?_
 refine xcallE rfl rfl (diffmeta_does w2 x y (hx.ext hE) (hy.ext hE)) (fun r w3 h3=>?_)
 obtain ⟨s,rfl,hs,hE3⟩:=h3
 have hE03:=hE.t hE3
 by_cases e1 : s = []
 case neg=>
  exact y22
 have hm:=hs.1 e1
 subst e1
 have hA3:=hA.ext hE3
 have hB3:=hB.ext hE3
 have a7 : w3.cell? ⟨w.heap.size,7,none⟩ = some (.int .i64 x.n.size):=hA3.cell 7
 have b7 : w3.cell? ⟨w1.heap.size,7,none⟩ = some (.int .i64 y.n.size):=hB3.cell 7
 have a8 : w3.cell? ⟨w.heap.size,8,none⟩ = some x.vd:=hA3.cell 8
 have b8 : w3.cell? ⟨w1.heap.size,8,none⟩ = some y.vd:=hB3.cell 8
 by_cases e2 : x.n.size = y.n.size
 case neg=>
  exact y75
 refine gz17 ?_
 refine xcallE rfl rfl (equal_pc w3 x.vd y.vd x.n.data y.n.data (hx.d.ext hE03) (hy.d.ext hE03)) (fun r w4 h4=>?_)
 obtain ⟨rfl,hE4⟩:=h4
 have hE04:=hE03.t hE4
 by_cases e3 : x.n.data = y.n.data
 case neg=>
  exact y51
 rw [decide_eq_true e3]
 have hA4:=hA3.ext hE4
 have hB4:=hB3.ext hE4
 have a9 : w4.cell? ⟨w.heap.size,9,none⟩ = some (.string (su x.n.target)):=hA4.cell 9
 have b9 : w4.cell? ⟨w1.heap.size,9,none⟩ = some (.string (su y.n.target)):=hB4.cell 9
 have a10 : w4.cell? ⟨w.heap.size,10,none⟩ = some (.int .i64 x.n.major):=hA4.cell 10
 have b10 : w4.cell? ⟨w1.heap.size,10,none⟩ = some (.int .i64 y.n.major):=hB4.cell 10
 have a11 : w4.cell? ⟨w.heap.size,11,none⟩ = some (.int .i64 x.n.minor):=hA4.cell 11
 have b11 : w4.cell? ⟨w1.heap.size,11,none⟩ = some (.int .i64 y.n.minor):=hB4.cell 11
 by_cases e4 : x.n.target = y.n.target
 case neg=>
  exact y25
 by_cases e5 : x.n.major = y.n.major
 case neg=>
  exact y68
 by_cases e6 : x.n.minor = y.n.minor
 case neg=>
  exact y69
 refine gz10 ?_
 exact tret1 rfl rfl ⟨[],rfl,⟨fun _=>nd_eq e0 hm e2 e3 e4 e5 e6,fun _=>rfl⟩,hE04⟩
theorem rdiff_does (w : World) (x y : NdV) (hx : NdIn w x) (hy : NdIn w y) : Does Tryz.prog 56 #[.agg (ndC x).toArray,.agg (ndC y).toArray] w fun r w'=>∃ s,r = .string (su s) ∧ (s = [] ↔ x.n = y.n) ∧ Ext w w':=by
 refine does2 Tryz.func56 rfl (by kernel_rfl) ?_
 refine goL ?_
 refine xbox rfl (fun w1 hB1 hE1 hs1=>?_)
 refine goL ?_
 refine xbox rfl (fun w2 hB2 hE2 hs2=>?_)
 have hE:=hE1.t hE2
 have hA : Blk w2 w.heap.size 47 (ndC x).toArray:=hB1.ext hE2
 have hB : Blk w2 w1.heap.size 47 (ndC y).toArray:=hB2
 have a0 : w2.cell? ⟨w.heap.size,0,none⟩ = some (.int .i64 x.n.kind):=hA.cell 0
 have b0 : w2.cell? ⟨w1.heap.size,0,none⟩ = some (.int .i64 y.n.kind):=hB.cell 0
 have hmx : ∀ j u,(mtC x)[j]? = some u → w2.cell? ⟨w.heap.size,0 + 1 + j,none⟩ = some u:=fun j u hu=>by rw [Nat.zero_add,hA.cell];exact mt_get hu
 have hmy : ∀ j u,(mtC y)[j]? = some u → w2.cell? ⟨w1.heap.size,0 + 1 + j,none⟩ = some u:=fun j u hu=>by rw [Nat.zero_add,hB.cell];exact mt_get hu
 by_cases e0 : x.n.kind = y.n.kind
 case neg=>
  refine goL ?_
  exact tret1 rfl rfl ⟨[107,105,110,100],rfl,⟨fun h=>(by cases h),fun h=>absurd (by rw [h]) e0⟩,hE⟩
 refine goL ?_
 refine xldz (cs:=mtC x) rfl rfl hmx ?_
 refine goL ?_
 refine xldz (cs:=mtC y) rfl rfl hmy ?_
 refine xcallE rfl rfl (rdiffmeta_does w2 x y (hx.ext hE) (hy.ext hE)) (fun r w3 h3=>?_)
 obtain ⟨s,rfl,hs,hE3⟩:=h3
 have hE03:=hE.t hE3
 by_cases e1 : s = []
 case neg=>
  exact y22
 have hm:=hs.1 e1
 subst e1
 have hA3:=hA.ext hE3
 have hB3:=hB.ext hE3
 have a7 : w3.cell? ⟨w.heap.size,7,none⟩ = some (.int .i64 x.n.size):=hA3.cell 7
 have b7 : w3.cell? ⟨w1.heap.size,7,none⟩ = some (.int .i64 y.n.size):=hB3.cell 7
 have a8 : w3.cell? ⟨w.heap.size,8,none⟩ = some x.vd:=hA3.cell 8
 have b8 : w3.cell? ⟨w1.heap.size,8,none⟩ = some y.vd:=hB3.cell 8
 by_cases e2 : x.n.size = y.n.size
 case neg=>
  exact y75
 refine gz17 ?_
 refine xcallE rfl rfl (requal_pc w3 x.vd y.vd x.n.data y.n.data (hx.d.ext hE03) (hy.d.ext hE03)) (fun r w4 h4=>?_)
 obtain ⟨rfl,hE4⟩:=h4
 have hE04:=hE03.t hE4
 by_cases e3 : x.n.data = y.n.data
 case neg=>
  exact y51
 rw [decide_eq_true e3]
 have hA4:=hA3.ext hE4
 have hB4:=hB3.ext hE4
 have a9 : w4.cell? ⟨w.heap.size,9,none⟩ = some (.string (su x.n.target)):=hA4.cell 9
 have b9 : w4.cell? ⟨w1.heap.size,9,none⟩ = some (.string (su y.n.target)):=hB4.cell 9
 have a10 : w4.cell? ⟨w.heap.size,10,none⟩ = some (.int .i64 x.n.major):=hA4.cell 10
 have b10 : w4.cell? ⟨w1.heap.size,10,none⟩ = some (.int .i64 y.n.major):=hB4.cell 10
 have a11 : w4.cell? ⟨w.heap.size,11,none⟩ = some (.int .i64 x.n.minor):=hA4.cell 11
 have b11 : w4.cell? ⟨w1.heap.size,11,none⟩ = some (.int .i64 y.n.minor):=hB4.cell 11
 by_cases e4 : x.n.target = y.n.target
 case neg=>
  exact y25
 by_cases e5 : x.n.major = y.n.major
 case neg=>
  exact y68
 by_cases e6 : x.n.minor = y.n.minor
 case neg=>
  exact y69
 refine gz10 ?_
 exact tret1 rfl rfl ⟨[],rfl,⟨fun _=>nd_eq e0 hm e2 e3 e4 e5 e6,fun _=>rfl⟩,hE04⟩
theorem same_does (w : World) (x y : NdV) (hx : NdIn w x) (hy : NdIn w y) : Does Tryz.prog 55 #[.agg (ndC x).toArray,.agg (ndC y).toArray] w fun r w'=>r = .bool (decide (x.n = y.n)) ∧ Ext w w':=by
 refine does2 Tryz.func55 rfl (by kernel_rfl) ?_
 refine goL ?_
 refine xbox rfl (fun w1 hB1 hE1 hs1=>?_)
 refine goL ?_
 refine xbox rfl (fun w2 hB2 hE2 hs2=>?_)
 have hE:=hE1.t hE2
 have hA : Blk w2 w.heap.size 47 (ndC x).toArray:=hB1.ext hE2
 have hB : Blk w2 w1.heap.size 47 (ndC y).toArray:=hB2
 refine goL ?_
 refine xlda (t:=47) hA rfl rfl ?_
 refine goL ?_
 refine xlda (t:=47) hB rfl rfl ?_
 refine goL ?_
 refine xcallE rfl rfl (diff_does w2 x y (hx.ext hE) (hy.ext hE)) (fun r w3 h3=>?_)
 obtain ⟨s,rfl,hs,hE3⟩:=h3
 by_cases e : s = []
 ·exact y36
 ·exact y32
theorem rsame_does (w : World) (x y : NdV) (hx : NdIn w x) (hy : NdIn w y) : Does Tryz.prog 27 #[.agg (ndC x).toArray,.agg (ndC y).toArray] w fun r w'=>r = .bool (decide (x.n = y.n)) ∧ Ext w w':=by
 refine does2 Tryz.func27 rfl (by kernel_rfl) ?_
 refine goL ?_
 refine xbox rfl (fun w1 hB1 hE1 hs1=>?_)
 refine goL ?_
 refine xbox rfl (fun w2 hB2 hE2 hs2=>?_)
 have hE:=hE1.t hE2
 have hA : Blk w2 w.heap.size 47 (ndC x).toArray:=hB1.ext hE2
 have hB : Blk w2 w1.heap.size 47 (ndC y).toArray:=hB2
 refine goL ?_
 refine xlda (t:=47) hA rfl rfl ?_
 refine goL ?_
 refine xlda (t:=47) hB rfl rfl ?_
 refine goL ?_
 refine xcallE rfl rfl (rdiff_does w2 x y (hx.ext hE) (hy.ext hE)) (fun r w3 h3=>?_)
 obtain ⟨s,rfl,hs,hE3⟩:=h3
 by_cases e : s = []
 ·exact y36
 ·exact y32
end
end Go.Proofs.YtbpmlbjapapoaaaGreatDoor.Eng
