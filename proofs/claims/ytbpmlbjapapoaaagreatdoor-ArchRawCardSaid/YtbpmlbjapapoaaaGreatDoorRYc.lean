/-
  Parts of the proof: Yc.
-/
import Derived.Test.YtbpmlbjapapoaaaGreatDoorRYa
set_option maxRecDepth 100000
set_option maxHeartbeats 64000000
namespace Go.Proofs.YtbpmlbjapapoaaaGreatDoor.Eng
open Go.RowKit
section
attribute [local irreducible] xs T
theorem bytes_joinG : ∀ (r : List Pce) (c : Pce),bytesP (joinG c r) = c.data.length + bytesP r
 | [],c=>by simp [joinG,bytesP]
 | p :: r,c=>by
  rw [joinG]
  split
  ·rw [bytes_joinG r,List.length_append,bytesP];omega
  ·rw [bytesP,bytes_joinG r,bytesP]
theorem bytes_joined (l : List Pce) : bytesP (joinedP l) = bytesP l:=by
 cases l with
 | nil=>rfl
 | cons p r=>rw [joinedP,bytes_joinG,bytesP]
theorem one_nd {w : World} {x : NdV} (hx : NdIn w x) : (ndC x).all (·.oneCell') = true:=by
 obtain ⟨A1,c1,e1,_⟩:=hx.a
 obtain ⟨A2,c2,e2,_⟩:=hx.c
 obtain ⟨A3,c3,e3,_⟩:=hx.d
 unfold ndC
 rw [e1,e2,e3]
 rfl
theorem file_pc {n : Nd} (h : fileOK n = true) : PcOK n.data ∧ bytesP n.data ≤ 4000 ∧ 0 ≤ n.size ∧ n.size ≤ 1099511627776 ∧ n.data.length ≤ 16:=by
 obtain ⟨f1,f2,f3,f4,f5,f6⟩:=(file_iff n).1 h
 have hbm : ∀ l : List Pce,∀ p ∈ l,p.data.length ≤ bytesP l:=by
  intro l
  induction l with
  | nil=>intro p hp;cases hp
  | cons q l ih=>
   intro p hp
   rw [bytesP]
   rcases List.mem_cons.1 hp with rfl | hp
   ·omega
   ·have:=ih p hp;omega
 refine ⟨⟨by omega,fun p hp=>?_⟩,f4,f1,f2,f3⟩
 obtain ⟨_,h1,h2⟩:=f6 p hp
 have:=hbm _ p hp
 unfold endP at h2
 exact ⟨h1,by omega,by omega⟩
theorem clip_pc {l : List Pce} {lo hi : Int} (h : PcOK l) (hlo : 0 ≤ lo ∧ lo ≤ 4398046511104) : PcOK (clipP l lo hi):=by
 refine ⟨Nat.le_trans (clip_len _ _ _) h.1,fun q hq=>?_⟩
 obtain ⟨p,hp,hc⟩:=List.mem_filterMap.1 hq
 have h2:=h.2 p hp
 have h1:=clip1_spec hc
 refine ⟨by omega,by omega,?_⟩
 unfold clip1 at hc
 split at hc
 ·injection hc with hc
  subst hc
  rw [List.length_take,List.length_drop]
  omega
 ·cases hc
structure NdTy (w : World) (x : NdV) : Prop where
 a : ∀ b,x.va.ownBlock = some b → ∃ cs,Blk w b 78 cs
 c : ∀ b,x.vc.ownBlock = some b → ∃ cs,Blk w b 80 cs
 d : ∀ b,x.vd.ownBlock = some b → ∃ cs,Blk w b 65 cs
theorem NdTy.ext {w w' : World} {x : NdV} (h : NdTy w x) (hE : Ext w w') : NdTy w' x:=
 ⟨fun b hb=>by obtain ⟨cs,hc⟩:=h.a b hb;exact ⟨cs,hc.ext hE⟩,fun b hb=>by obtain ⟨cs,hc⟩:=h.c b hb;exact ⟨cs,hc.ext hE⟩,fun b hb=>by obtain ⟨cs,hc⟩:=h.d b hb;exact ⟨cs,hc.ext hE⟩⟩
def Away (w : World) (S : Nat → Prop) : Prop:=∀ b,S b → ∃ t cs,Blk w b t cs ∧ t ≠ 78 ∧ t ≠ 80 ∧ t ≠ 65
theorem Away.one {w : World} {g t : Nat} {cs : Array Value} (h : Blk w g t cs) (h1 : t ≠ 78 ∧ t ≠ 80 ∧ t ≠ 65) : Away w (· = g):=fun _ hb=>⟨t,cs,hb ▸ h,h1⟩
theorem Away.own {α : Type} {cf : α → List Value} {z B t : Nat} {w : World} {v : Value} {l : List α} (h : Ow cf z w B t v l) (h1 : t ≠ 78 ∧ t ≠ 80 ∧ t ≠ 65) : Away w (fun b=>v.ownBlock = some b):=fun b hb=>by
 obtain ⟨cs,hc⟩:=h.typ hb
 exact ⟨t,cs,hc,h1⟩
structure NdK (w : World) (x : NdV) : Prop where
 i : NdIn w x
 t : NdTy w x
theorem NdK.ext {w w' : World} {x : NdV} (h : NdK w x) (hE : Ext w w') : NdK w' x:=⟨h.i.ext hE,h.t.ext hE⟩
theorem NdK.fr {S : Nat → Prop} {w w' : World} {x : NdV} (h : NdK w x) (hF : Fr S w w') (hA : Away w S) : NdK w' x:=by
 have key : ∀ b t cs,Blk w b t cs → (t = 78 ∨ t = 80 ∨ t = 65) → ¬ S b:=fun b t _ hb ht hS=>by
  obtain ⟨t',cs',hb',h1,h2,h3⟩:=hA b hS
  have : t = t':=by
   by_cases e : t = t'
   ·exact e
   ·exact absurd rfl (hb.ne_ hb' e)
  subst this
  rcases ht with ht | ht | ht
  ·exact h1 ht
  ·exact h2 ht
  ·exact h3 ht
 refine ⟨⟨h.i.a.fr hF fun b hb=>?_,h.i.c.fr hF fun b hb=>?_,h.i.d.fr hF fun b hb=>?_⟩,⟨fun b hb=>?_,fun b hb=>?_,fun b hb=>?_⟩⟩
 ·obtain ⟨cs,hc⟩:=h.t.a b hb;exact key b _ cs hc (.inl rfl)
 ·obtain ⟨cs,hc⟩:=h.t.c b hb;exact key b _ cs hc (.inr (.inl rfl))
 ·obtain ⟨cs,hc⟩:=h.t.d b hb;exact key b _ cs hc (.inr (.inr rfl))
 ·obtain ⟨cs,hc⟩:=h.t.a b hb;exact ⟨cs,hc.fr hF (key b _ cs hc (.inl rfl))⟩
 ·obtain ⟨cs,hc⟩:=h.t.c b hb;exact ⟨cs,hc.fr hF (key b _ cs hc (.inr (.inl rfl)))⟩
 ·obtain ⟨cs,hc⟩:=h.t.d b hb;exact ⟨cs,hc.fr hF (key b _ cs hc (.inr (.inr rfl)))⟩
def NdR (w : World) (x : NdV) (n : Nd) (e : Int) (r : Value) (w' : World) : Prop:=∃ x',r = .tuple #[.agg (ndC x').toArray,.int .i64 e] ∧ NdIn w' x' ∧ x'.n = n ∧ Ext w w' ∧ (NdTy w x → NdTy w' x')
theorem rcutn_does (w : World) (x : NdV) (size : Int) (hx : NdIn w x) (hb : bytesP x.n.data ≤ 1000000) (htl : x.n.target.length ≤ 1000000) : Does Tryz.prog 32 #[.agg (ndC x).toArray,.int .i64 size] w (NdR w x (cutN x.n size).1 (cutN x.n size).2):=by
 refine does2 Tryz.func32 rfl (by kernel_rfl) ?_
 have hN : ∀ {a b c : World} {g : Nat},Ext a b → Fr (· = g) b c → a.heap.size ≤ g → Ext a c:=fun h1 h2 hg=>h1.trans h2 fun j hj e=>absurd hj (by omega)
 refine goL ?_
 refine xbox rfl (fun w1 hB1 hE1 hs1=>?_)
 have hB : Blk w1 w.heap.size 47 (ndC x).toArray:=hB1
 refine goL ?_
 refine xalloc (z:=.agg nd0) (by kernel_rfl) (fun w2 hB2 hE2 hs2=>?_)
 have hZ : Blk w2 w1.heap.size 47 nd0:=hB2
 refine goL ?_
 refine xlda (t:=47) (hB.ext hE2) rfl rfl ?_
 refine goL ?_
 refine xcallE rfl rfl (rnodemay_does w2 x (hx.ext (hE1.t hE2)) hb htl) (fun r w3 h3=>?_)
 obtain ⟨rfl,hE3⟩:=h3
 have hE13 : Ext w1 w3:=hE2.t hE3
 have hE03 : Ext w w3:=hE1.t hE13
 have k0 : w3.cell? ⟨w.heap.size,0,none⟩ = some (.int .i64 x.n.kind):=(hB.ext hE13).cell 0
 have bad : (nodeOK x.n = false ∨ x.n.kind ≠ 2 ∨ size < 0 ∨ 1099511627776 < size) → ∀ w4,Blk w4 w1.heap.size 47 (ndC x).toArray → Fr (· = w1.heap.size) w3 w4 → NdR w x (cutN x.n size).1 (cutN x.n size).2 (.tuple #[.agg (ndC x).toArray,.int .i64 1]) w4:=fun h w4 _ hF=>by
  have e : cutN x.n size = (x.n,1):=if_pos h
  rw [e]
  exact ⟨x,rfl,hx.ext (hN hE03 hF (by omega)),rfl,hN hE03 hF (by omega),fun h=>h.ext (hN hE03 hF (by omega))⟩
 cases hok : nodeOK x.n with
 | false=>
  refine goL ?_
  refine xlda (t:=47) (hB.ext hE13) rfl rfl ?_
  refine goL ?_
  refine xsta (hZ.ext hE3) rfl rfl (by kernel_rfl) rfl (one_cells (one_nd hx)) (fun w4 hB4 hF4=>?_)
  refine goL ?_
  exact tretc2 rfl rfl rfl hB4 (by kernel_rfl) (bad (.inl hok) w4 hB4 hF4)
 | true=>
 by_cases g1 : x.n.kind ≠ 2
 ·refine goL ?_
  refine xlda (t:=47) (hB.ext hE13) rfl rfl ?_
  refine goL ?_
  refine xsta (hZ.ext hE3) rfl rfl (by kernel_rfl) rfl (one_cells (one_nd hx)) (fun w4 hB4 hF4=>?_)
  refine goL ?_
  exact tretc2 rfl rfl rfl hB4 (by kernel_rfl) (bad (.inr (.inl g1)) w4 hB4 hF4)
 by_cases g2 : size < 0
 ·refine goL ?_
  refine xlda (t:=47) (hB.ext hE13) rfl rfl ?_
  refine goL ?_
  refine xsta (hZ.ext hE3) rfl rfl (by kernel_rfl) rfl (one_cells (one_nd hx)) (fun w4 hB4 hF4=>?_)
  refine goL ?_
  exact tretc2 rfl rfl rfl hB4 (by kernel_rfl) (bad (.inr (.inr (.inl g2))) w4 hB4 hF4)
 by_cases g3 : 1099511627776 < size
 ·refine goL ?_
  refine xlda (t:=47) (hB.ext hE13) rfl rfl ?_
  refine goL ?_
  refine xsta (hZ.ext hE3) rfl rfl (by kernel_rfl) rfl (one_cells (one_nd hx)) (fun w4 hB4 hF4=>?_)
  refine goL ?_
  exact tretc2 rfl rfl rfl hB4 (by kernel_rfl) (bad (.inr (.inr (.inr g3))) w4 hB4 hF4)
 have hgood : cutN x.n size = ({ x.n with data:=clipP x.n.data 0 size,size:=size },0):=if_neg (by rw [hok];simp only [Bool.true_eq_false,false_or];omega)
 rw [hgood]
 obtain ⟨f1,f2,f3,f4,f5⟩:=file_pc (node_file hok (by omega))
 obtain ⟨A,c,evd,hc1,hc2,_⟩:=hx.d.op pcC_len
 have k8 : w3.cell? ⟨w.heap.size,8,none⟩ = some x.vd:=(hB.ext hE13).cell 8
 rw [evd] at k8
 have hxd:=hx.d
 rw [evd] at hxd
 refine goL ?_
 refine xcallE rfl rfl (rclip_does w3 _ x.n.data 0 size (hxd.ext hE03) f1 (by omega)) (fun r w4 h4=>?_)
 obtain ⟨hO4,hE4⟩:=h4
 obtain ⟨A4,c4,rfl,_,_⟩:=hO4.form
 have hB4 : Blk w4 w.heap.size 47 (ndC x).toArray:=(hB.ext hE13).ext hE4
 refine goL ?_
 refine xstb hB4 rfl rfl (by kernel_rfl) rfl rfl (fun w5 hB5 hF5=>?_)
 refine goL ?_
 refine xstb hB5 rfl rfl (by kernel_rfl) rfl rfl (fun w6 hB6 hF6=>?_)
 obtain ⟨x',hx'⟩ : ∃ x' : NdV,x' = ⟨{ x.n with data:=clipP x.n.data 0 size,size:=size },x.va,x.vc,.slice A4 (clipP x.n.data 0 size).length c4⟩:=⟨_,rfl⟩
 have hB6' : Blk w6 w.heap.size 47 (ndC x').toArray:=by rw [hx'];exact hB6
 have hE04 : Ext w w4:=hE03.t hE4
 have hE06 : Ext w w6:=hN (hN hE04 hF5 (Nat.le_refl _)) hF6 (Nat.le_refl _)
 have hs3:=hE13.size
 have hO6 : Ow pcC 2 w6 w3.heap.size 65 (.slice A4 (clipP x.n.data 0 size).length c4) (clipP x.n.data 0 size):=(hO4.fr hF5 (fun b hb=>by have:=(hO4.blk hb).1;show ¬ b = w.heap.size;omega)).fr hF6 (fun b hb=>by have:=(hO4.blk hb).1;show ¬ b = w.heap.size;omega)
 have hin6 : NdIn w6 x':=by rw [hx'];exact ⟨hx.a.ext hE06,hx.c.ext hE06,hO6.rw⟩
 have hZ6 : Blk w6 w1.heap.size 47 nd0:=((hZ.ext (hE3.t hE4)).fr hF5 (show ¬ w1.heap.size = w.heap.size by omega)).fr hF6 (show ¬ w1.heap.size = w.heap.size by omega)
 refine goL ?_
 refine xlda (t:=47) hB6' rfl rfl ?_
 refine goL ?_
 refine xsta hZ6 rfl rfl (by kernel_rfl) rfl (one_cells (one_nd hin6)) (fun w7 hB7 hF7=>?_)
 refine goL ?_
 have hE07:=hN hE06 hF7 (by omega)
 refine tretc2 rfl rfl rfl hB7 (by kernel_rfl) ⟨x',rfl,?_,by rw [hx'],hE07,fun ht=>?_⟩
 all_goals have hO7:=hO6.fr hF7 (fun b hb=>by have:=(hO6.blk hb).1;have:=hE2.size;have:=hE3.size;show ¬ b = w1.heap.size;omega)
 ·rw [hx']
  exact ⟨hx.a.ext hE07,hx.c.ext hE07,hO7.rw⟩
 ·rw [hx']
  exact ⟨(ht.ext hE07).a,(ht.ext hE07).c,fun b hb=>hO7.typ hb⟩
theorem rwrite_does (w : World) (x : NdV) (at_ : Int) (s : Str) (hx : NdIn w x) (hb : bytesP x.n.data ≤ 1000000) (htl : x.n.target.length ≤ 1000000) (hsl : s.length ≤ 100000) : Does Tryz.prog 31 #[.agg (ndC x).toArray,.int .i64 at_,.string (su s)] w (NdR w x (writeN x.n at_ s).1 (writeN x.n at_ s).2):=by
 refine does3 Tryz.func31 rfl (by kernel_rfl) ?_
 have hN : ∀ {a b c : World} {g : Nat},Ext a b → Fr (· = g) b c → a.heap.size ≤ g → Ext a c:=fun h1 h2 hg=>h1.trans h2 fun j hj e=>absurd hj (by omega)
 refine goL ?_
 refine xbox rfl (fun w1 hB1 hE1 hs1=>?_)
 have hB : Blk w1 w.heap.size 47 (ndC x).toArray:=hB1
 refine goL ?_
 refine xalloc (z:=.agg nd0) (by kernel_rfl) (fun w2 hB2 hE2 hs2=>?_)
 have hZ : Blk w2 w1.heap.size 47 nd0:=hB2
 refine goL ?_
 refine xlda (t:=47) (hB.ext hE2) rfl rfl ?_
 refine goL ?_
 refine xcallE rfl rfl (rnodemay_does w2 x (hx.ext (hE1.t hE2)) hb htl) (fun r w3 h3=>?_)
 obtain ⟨rfl,hE3⟩:=h3
 have hE13 : Ext w1 w3:=hE2.t hE3
 have hE03 : Ext w w3:=hE1.t hE13
 have k0 : w3.cell? ⟨w.heap.size,0,none⟩ = some (.int .i64 x.n.kind):=(hB.ext hE13).cell 0
 have bad : ∀ e,writeN x.n at_ s = (x.n,e) → ∀ w4,Blk w4 w1.heap.size 47 (ndC x).toArray → Fr (· = w1.heap.size) w3 w4 → NdR w x (writeN x.n at_ s).1 (writeN x.n at_ s).2 (.tuple #[.agg (ndC x).toArray,.int .i64 e]) w4:=fun e h w4 _ hF=>by
  rw [h]
  exact ⟨x,rfl,hx.ext (hN hE03 hF (by omega)),rfl,hN hE03 hF (by omega),fun h=>h.ext (hN hE03 hF (by omega))⟩
 have bad1 : (nodeOK x.n = false ∨ x.n.kind ≠ 2 ∨ at_ < 0 ∨ 1099511627776 < at_) → writeN x.n at_ s = (x.n,1):=fun h=>if_pos h
 cases hok : nodeOK x.n with
 | false=>
  refine goL ?_
  refine xlda (t:=47) (hB.ext hE13) rfl rfl ?_
  refine goL ?_
  refine xsta (hZ.ext hE3) rfl rfl (by kernel_rfl) rfl (one_cells (one_nd hx)) (fun w4 hB4 hF4=>?_)
  refine goL ?_
  exact tretc2 rfl rfl rfl hB4 (by kernel_rfl) (bad 1 (bad1 (.inl hok)) w4 hB4 hF4)
 | true=>
 by_cases g1 : x.n.kind ≠ 2
 ·refine goL ?_
  refine xlda (t:=47) (hB.ext hE13) rfl rfl ?_
  refine goL ?_
  refine xsta (hZ.ext hE3) rfl rfl (by kernel_rfl) rfl (one_cells (one_nd hx)) (fun w4 hB4 hF4=>?_)
  refine goL ?_
  exact tretc2 rfl rfl rfl hB4 (by kernel_rfl) (bad 1 (bad1 (.inr (.inl g1))) w4 hB4 hF4)
 by_cases g2 : at_ < 0
 ·refine goL ?_
  refine xlda (t:=47) (hB.ext hE13) rfl rfl ?_
  refine goL ?_
  refine xsta (hZ.ext hE3) rfl rfl (by kernel_rfl) rfl (one_cells (one_nd hx)) (fun w4 hB4 hF4=>?_)
  refine goL ?_
  exact tretc2 rfl rfl rfl hB4 (by kernel_rfl) (bad 1 (bad1 (.inr (.inr (.inl g2)))) w4 hB4 hF4)
 by_cases g3 : 1099511627776 < at_
 ·refine goL ?_
  refine xlda (t:=47) (hB.ext hE13) rfl rfl ?_
  refine goL ?_
  refine xsta (hZ.ext hE3) rfl rfl (by kernel_rfl) rfl (one_cells (one_nd hx)) (fun w4 hB4 hF4=>?_)
  refine goL ?_
  exact tretc2 rfl rfl rfl hB4 (by kernel_rfl) (bad 1 (bad1 (.inr (.inr (.inr g3)))) w4 hB4 hF4)
 have hno : ¬ (nodeOK x.n = false ∨ x.n.kind ≠ 2 ∨ at_ < 0 ∨ 1099511627776 < at_):=by rw [hok];simp only [Bool.true_eq_false,false_or];omega
 by_cases g4 : 1099511627776 - at_ < (s.length : Int)
 ·repeat' (first | refine xuln rfl rfl ?_ | refine go1L ?_ | fail)
  refine xlda (t:=47) (hB.ext hE13) rfl rfl ?_
  refine goL ?_
  refine xsta (hZ.ext hE3) rfl rfl (by kernel_rfl) rfl (one_cells (one_nd hx)) (fun w4 hB4 hF4=>?_)
  refine goL ?_
  exact tretc2 rfl rfl rfl hB4 (by kernel_rfl) (bad 2 ((if_neg hno).trans (if_pos g4)) w4 hB4 hF4)
 by_cases g5 : s = []
 ·repeat' (first | refine xuln rfl rfl ?_ | refine xucmp (op:=.eql) (b:=[]) (r:=true) rfl rfl (by simp [cmpU,g5]) ?_ | refine go1L ?_ | fail)
  refine xlda (t:=47) (hB.ext hE13) rfl rfl ?_
  refine goL ?_
  refine xsta (hZ.ext hE3) rfl rfl (by kernel_rfl) rfl (one_cells (one_nd hx)) (fun w4 hB4 hF4=>?_)
  refine goL ?_
  exact tretc2 rfl rfl rfl hB4 (by kernel_rfl) (bad 0 ((if_neg hno).trans ((if_neg g4).trans (if_pos g5))) w4 hB4 hF4)
 obtain ⟨f1,f2,f3,f4,f5⟩:=file_pc (node_file hok (by omega))
 have hw:=wr_spec (node_file hok (by omega)) (show 0 ≤ at_ by omega) g5 (by omega)
 obtain ⟨A,c,evd,hc1,hc2,_⟩:=hx.d.op pcC_len
 have k8 : w3.cell? ⟨w.heap.size,8,none⟩ = some x.vd:=(hB.ext hE13).cell 8
 rw [evd] at k8
 have hxd:=hx.d
 rw [evd] at hxd
 have hc1b:=clip_bytes x.n.data 0 at_
 have hc1l:=clip_len x.n.data 0 at_
 have hc2b:=clip_bytes x.n.data (at_ + (s.length : Int)) 1099511627777
 have hc2l:=clip_len x.n.data (at_ + (s.length : Int)) 1099511627777
 repeat' (first | refine xuln rfl rfl ?_ | refine xucmp (op:=.eql) (b:=[]) (r:=false) rfl rfl (by simp [cmpU,g5]) ?_ | refine go1L ?_ | fail)
 refine xcallE rfl rfl (rclip_does w3 _ x.n.data 0 at_ (hxd.ext hE03) f1 (by omega)) (fun r w4 h4=>?_)
 obtain ⟨hO4,hE4⟩:=h4
 obtain ⟨A4,c4,rfl,_,_⟩:=hO4.form
 have hs3:=hE13.size
 have hs4:=hE4.size
 obtain ⟨q,hq⟩ : ∃ q : Pce,q = ⟨at_,s⟩:=⟨_,rfl⟩
 refine goL ?_
 refine xbd (parts:=[(0,.tmp 48),(1,.tmp 49)]) (cells:=(pcC q).toArray) (vs:=[(0,.int .i64 q.pos),(1,.string (su q.data))]) (by rw [hq];rfl) (by kernel_rfl) ?_
 refine xbz1 sl_pcs rfl rfl (by decide) (by decide) (fun w5 hB5 hE5 hs5=>?_)
 have hs5':=hE5.size
 refine xapz (B:=w3.heap.size) (news:=pcC q) sl_pcs rfl (by decide) rfl (hO4.ext hE5) rfl (blk_row hB5 (by decide) rfl) rfl (fun u hu=>pcC_one [_] u (by simpa using hu)) (by unfold maxLen;omega) (by omega) (by omega) (fun v6 w6 hO6 hF6 _=>?_)
 have hO6' : Ow pcC 2 w6 w3.heap.size 65 v6 (clipP x.n.data 0 at_ ++ [q]):=Ow.ext1 (l':=[q]) (by simpa using hO6)
 obtain ⟨A6,c6,rfl,_,_⟩:=hO6'.form
 have hE36 : Ext w3 w6:=(hE4.t hE5).trans hF6 fun j hj h=>by have:=(hO4.blk h).1;omega
 have hs6:=hE36.size
 have hl6 : (clipP x.n.data 0 at_ ++ [q]).length = (clipP x.n.data 0 at_).length + 1:=by simp
 have k86 : w6.cell? ⟨w.heap.size,8,none⟩ = some (.slice A x.n.data.length c):=hE36.cell k8
 refine goL ?_
 refine xcallE rfl rfl (rclip_does w6 _ x.n.data (at_ + (s.length : Int)) 1099511627777 (hxd.ext (hE03.t hE36)) f1 (by omega)) (fun r w7 h7=>?_)
 obtain ⟨hO7,hE7⟩:=h7
 obtain ⟨A7,c7,rfl,_,_⟩:=hO7.form
 have hs7:=hE7.size
 refine xapz (B:=w3.heap.size) (news:=(clipP x.n.data (at_ + (s.length : Int)) 1099511627777).flatMap pcC) sl_pcs rfl (by decide) rfl (hO6'.ext hE7) rfl hO7.rw (flat_len pcC_len _) (pcC_one _) (by unfold maxLen;omega) (by omega) (by omega) (fun v8 w8 hO8 hF8 _=>?_)
 have hO8' : Ow pcC 2 w8 w3.heap.size 65 v8 (clipP x.n.data 0 at_ ++ [q] ++ clipP x.n.data (at_ + (s.length : Int)) 1099511627777):=Ow.ext1 hO8
 obtain ⟨A8,c8,rfl,_,_⟩:=hO8'.form
 have hE38 : Ext w3 w8:=(hE36.t hE7).trans hF8 fun j hj h=>by have:=(hO6'.blk h).1;omega
 have hs8:=hE38.size
 have hwr : joinedP (clipP x.n.data 0 at_ ++ [q] ++ clipP x.n.data (at_ + (s.length : Int)) 1099511627777) = wrP x.n.data at_ s:=by rw [hq];rfl
 have hby : bytesP (clipP x.n.data 0 at_ ++ [q] ++ clipP x.n.data (at_ + (s.length : Int)) 1099511627777) ≤ 200000:=by
  rw [bytesP_app,bytesP_app,hq]
  simp only [bytesP]
  omega
 have hpc8 : PcOK (clipP x.n.data 0 at_ ++ [q] ++ clipP x.n.data (at_ + (s.length : Int)) 1099511627777):=by
  refine ⟨by rw [List.length_append,hl6];omega,fun p hp=>?_⟩
  rcases List.mem_append.1 hp with hp | hp
  ·rcases List.mem_append.1 hp with hp | hp
   ·exact (clip_pc f1 (by omega)).2 p hp
   ·rw [List.mem_singleton.1 hp,hq];exact ⟨by dsimp only;omega,by dsimp only;omega,by dsimp only;omega⟩
  ·exact (clip_pc f1 (by omega)).2 p hp
 refine goL ?_
 refine xcallE rfl rfl (rjoined_does w8 _ _ hO8'.rw hpc8 (by omega)) (fun r w9 h9=>?_)
 rw [hwr] at h9
 obtain ⟨hO9,hE9⟩:=h9
 obtain ⟨A9,c9,rfl,_,_⟩:=hO9.form
 have hE39 : Ext w3 w9:=hE38.t hE9
 have hs9:=hE9.size
 have hwb : bytesP (wrP x.n.data at_ s) ≤ 200000:=by rw [← hwr,bytes_joined];exact hby
 refine goL ?_
 refine xlda (t:=47) ((hB.ext hE13).ext hE39) rfl rfl ?_
 refine goL ?_
 refine xalloc (z:=.agg nd0) (by kernel_rfl) (fun w10 hB10 hE10 hs10=>?_)
 refine xsta hB10 rfl rfl (by kernel_rfl) rfl (one_cells (one_nd hx)) (fun w11 hB11 hF11=>?_)
 have hE311 : Ext w3 w11:=hN (hE39.t hE10) hF11 (by omega)
 have k7 : w11.drew.cell? ⟨w.heap.size,7,none⟩ = some (.int .i64 x.n.size):=((hB.ext hE13).ext hE311).cell 7
 refine goLM ?_
 refine tdrawH [63] (fun w'=>w'.cell? ⟨w.heap.size,7,none⟩ = some (.int .i64 x.n.size)) (by kernel_rfl) (by decide +kernel) k7 ?_
 repeat' (first | refine xldh rfl rfl (fun _ h=>h) ?_ | refine go1LM ?_ | fail)
 refine xstb (w:=w11.drew) hB11 rfl rfl (by kernel_rfl) rfl rfl (fun w12 hB12 hF12=>?_) (fun w' hF=>hF.cell k7 (show ¬ w.heap.size = w9.heap.size by omega))
 refine goLM ?_
 have k712 : w12.cell? ⟨w.heap.size,7,none⟩ = some (.int .i64 x.n.size):=hF12.cell k7 (show ¬ w.heap.size = w9.heap.size by omega)
 refine xstb hB12 rfl rfl (by kernel_rfl) rfl rfl (fun w13 hB13 hF13=>?_) (fun w' hF=>hF.cell k712 (show ¬ w.heap.size = w9.heap.size by omega))
 obtain ⟨x',hx'⟩ : ∃ x' : NdV,x' = ⟨{ x.n with data:=wrP x.n.data at_ s,size:=max x.n.size (at_ + (s.length : Int)) },x.va,x.vc,.slice A9 (wrP x.n.data at_ s).length c9⟩:=⟨_,rfl⟩
 have hB13' : Blk w13 w9.heap.size 47 (ndC x').toArray:=by rw [hx'];exact hB13
 have hE313 : Ext w3 w13:=hN (hN hE311.ed hF12 (by omega)) hF13 (by omega)
 have hE013 : Ext w w13:=hE03.t hE313
 have hne9 : ∀ b,(Value.slice A9 (wrP x.n.data at_ s).length c9).ownBlock = some b → w8.heap.size ≤ b ∧ b < w9.heap.size:=fun b hb=>hO9.blk hb
 have hO13 : Ow pcC 2 w13 w8.heap.size 65 (.slice A9 (wrP x.n.data at_ s).length c9) (wrP x.n.data at_ s):=
  (((((hO9.ext hE10).fr hF11 (fun b hb=>by have:=hne9 b hb;show ¬ b = w9.heap.size;omega)).ext (Fr.drew _ _)).fr hF12 (fun b hb=>by have:=hne9 b hb;show ¬ b = w9.heap.size;omega)).fr hF13 (fun b hb=>by have:=hne9 b hb;show ¬ b = w9.heap.size;omega))
 have hin13 : NdIn w13 x':=by rw [hx'];exact ⟨hx.a.ext hE013,hx.c.ext hE013,hO13.rw⟩
 have hbx : bytesP x'.n.data ≤ 1000000:=by rw [hx'];dsimp only;omega
 have hZ13 : Blk w13 w1.heap.size 47 nd0:=(hZ.ext hE3).ext hE313
 refine goL ?_
 refine xlda (t:=47) hB13' rfl rfl ?_
 refine goL ?_
 refine xcallE rfl rfl (rbytes_does w13 x' hin13 hbx) (fun r w14 h14=>?_)
 obtain ⟨rfl,hE14⟩:=h14
 have hdx : x'.n.data = wrP x.n.data at_ s:=by rw [hx']
 rw [hdx]
 have k814 : w14.cell? ⟨w9.heap.size,8,none⟩ = some (.slice A9 (wrP x.n.data at_ s).length c9):=by
  have:=(hB13'.ext hE14).cell 8
  rw [this,hx'];rfl
 have hE014 : Ext w w14:=hE013.t hE14
 have hE314 : Ext w3 w14:=hE313.t hE14
 have hBn : Blk w14 w.heap.size 47 (ndC x).toArray:=(hB.ext hE13).ext hE314
 have hZ14:=hZ13.ext hE14
 have lim : (4000 < bytesP (wrP x.n.data at_ s) ∨ 16 < (wrP x.n.data at_ s).length) → writeN x.n at_ s = (x.n,13):=fun h=>(if_neg hno).trans ((if_neg g4).trans ((if_neg g5).trans (if_pos h)))
 by_cases g6 : 4000 < bytesP (wrP x.n.data at_ s)
 ·refine goL ?_
  refine xlda (t:=47) hBn rfl rfl ?_
  refine goL ?_
  refine xsta hZ14 rfl rfl (by kernel_rfl) rfl (one_cells (one_nd hx)) (fun w15 hB15 hF15=>?_)
  refine goL ?_
  refine tretc2 rfl rfl rfl hB15 (by kernel_rfl) ?_
  rw [lim (.inl g6)]
  exact ⟨x,rfl,hx.ext (hN hE014 hF15 (by omega)),rfl,hN hE014 hF15 (by omega),fun h=>h.ext (hN hE014 hF15 (by omega))⟩
 by_cases g7 : 16 < (wrP x.n.data at_ s).length
 ·refine goL ?_
  refine xlda (t:=47) hBn rfl rfl ?_
  refine goL ?_
  refine xsta hZ14 rfl rfl (by kernel_rfl) rfl (one_cells (one_nd hx)) (fun w15 hB15 hF15=>?_)
  refine goL ?_
  refine tretc2 rfl rfl rfl hB15 (by kernel_rfl) ?_
  rw [lim (.inr g7)]
  exact ⟨x,rfl,hx.ext (hN hE014 hF15 (by omega)),rfl,hN hE014 hF15 (by omega),fun h=>h.ext (hN hE014 hF15 (by omega))⟩
 have hfin : writeN x.n at_ s = ({ x.n with data:=wrP x.n.data at_ s,size:=max x.n.size (at_ + (s.length : Int)) },0):=(if_neg hno).trans ((if_neg g4).trans ((if_neg g5).trans (if_neg (by omega))))
 refine goL ?_
 refine xlda (t:=47) (hB13'.ext hE14) rfl rfl ?_
 refine goL ?_
 refine xsta hZ14 rfl rfl (by kernel_rfl) rfl (one_cells (one_nd hin13)) (fun w15 hB15 hF15=>?_)
 refine goL ?_
 have hE015:=hN hE014 hF15 (by omega)
 refine tretc2 rfl rfl rfl hB15 (by kernel_rfl) ?_
 rw [hfin]
 have hO15:=(hO13.ext hE14).fr hF15 (fun b hb=>by have:=(hO13.blk hb).1;have:=hE3.size;show ¬ b = w1.heap.size;omega)
 refine ⟨x',rfl,?_,by rw [hx'],hE015,fun ht=>?_⟩
 ·rw [hx']
  exact ⟨hx.a.ext hE015,hx.c.ext hE015,hO15.rw⟩
 ·rw [hx']
  exact ⟨(ht.ext hE015).a,(ht.ext hE015).c,fun b hb=>hO15.typ hb⟩
end
end Go.Proofs.YtbpmlbjapapoaaaGreatDoor.Eng
