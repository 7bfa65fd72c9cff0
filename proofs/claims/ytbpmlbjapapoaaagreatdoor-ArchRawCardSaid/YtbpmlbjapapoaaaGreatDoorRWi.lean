/-
  Parts of the proof: Wi.
-/
import Derived.Test.YtbpmlbjapapoaaaGreatDoorRB5
import Derived.Test.YtbpmlbjapapoaaaGreatDoorRWh
set_option maxRecDepth 100000
set_option maxHeartbeats 64000000
namespace Go.Proofs.YtbpmlbjapapoaaaGreatDoor.Eng
open Go.RowKit
section
section
variable {hs : List Nat} {H : World → Prop} {full : Array Oper} {K : Env → World → Prop} {rest : List Oper} {env : Env} {w : World} {d : Tmp} {ty : TypeId} {pos : String} {af : Array Edge}
theorem xfge {t yt : TypeId} {x y : Operand} {a b : Nat} (hx : evo env x = some (.float .f64 (fw a))) (hy : evo env y = some (.float .f64 (fw b))) (ha : a ≤ 1099511627776) (hb : b ≤ 1099511627776) {r : Bool} (hr : decide (b ≤ a) = r)
  (h : xs Tryz.prog isI isS hs H full K rest ((d,.bool r) :: env) w) : xs Tryz.prog isI isS hs H full K (⟨some d,.binOp .geq t x y yt,ty,pos,af,none⟩ :: rest) env w:=by
 refine x_bin hx hy (by rfl) (fun w'=>?_) h
 have hc : (binOp .geq t (.float .f64 (fw a)) (.float .f64 (fw b))) = pure (.bool (FloatKind.f64.format.order (fw a) (fw b) == some .gt || FloatKind.f64.format.order (fw a) (fw b) == some .eq)):=by simp [binOp,Op.floatCmp]
 rw [hc,fw_ord (by omega) (by omega),← hr]
 rcases Nat.lt_trichotomy a b with h | h | h
 ·rw [Nat.compare_eq_lt.2 h,decide_eq_false (by omega)];rfl
 ·rw [Nat.compare_eq_eq.2 h,decide_eq_true (by omega)];rfl
 ·rw [Nat.compare_eq_gt.2 h,decide_eq_true (by omega)];rfl
end
attribute [local irreducible] xs T
theorem rbound_does (w : World) (v : Int) : Does Tryz.prog 183 #[.int .i64 v] w fun r w'=>r = .int .i64 (min (max v 0) 1099511627776) ∧ w = w':=by
 refine does1 Tryz.func183 rfl (by kernel_rfl) ?_
 refine goLM ?_
 exact y4
theorem rpart_does (w : World) (n : Nat) (hn : n ≤ 1099511627776) : Does Tryz.prog 182 #[.float .f64 (fw n)] w fun r w'=>r = .int .i64 (n : Int) ∧ w = w':=by
 refine does1 Tryz.func182 rfl (by kernel_rfl) ?_
 have em : ∀ env : Env,evo env (.const (.float .f64 4787326403894837248)) = some (.float .f64 (fw 1099511627776)):=fun env=>by rw [fw_max];rfl
 have ez : ∀ env : Env,evo env (.const (.float .f64 0)) = some (.float .f64 (fw 0)):=fun env=>by rw [fw_zero];rfl
 by_cases h0 : 1099511627776 ≤ n
 ·obtain rfl : n = 1099511627776:=by omega
  repeat' (first | refine xfge (r:=true) rfl (em _) (by omega) (by omega) (by decide) ?_ | refine go1L ?_ | fail)
  exact y4
 ·repeat' (first | refine xfge (r:=false) rfl (em _) hn (by omega) (decide_eq_false (by omega)) ?_ | refine xfge (r:=true) rfl (ez _) hn (by omega) (decide_eq_true (by omega)) ?_ | refine xcfi rfl hn ?_ | refine go1L ?_ | fail)
  exact y4
theorem rof_does (w : World) (a l : Nat) (ha : a ≤ 1099511627776) (hl : l ≤ 1099511627776) : Does Tryz.prog 146 #[.int .i64 (a : Int),.int .i64 (l : Int)] w fun r w'=>r = .complex .f64 (fw a) (fw l) ∧ w = w':=by
 refine does2 Tryz.func146 rfl (by kernel_rfl) ?_
 refine goL ?_
 refine xcallE rfl rfl (rbound_does w a) (fun r w1 h1=>?_)
 obtain ⟨rfl,rfl⟩:=h1
 rw [show min (max (a : Int) 0) 1099511627776 = (a : Int) from by omega]
 repeat' (first | refine xcif a rfl rfl ?_ | refine go1L ?_ | fail)
 refine xcallE rfl rfl (rbound_does w l) (fun r w1 h1=>?_)
 exact y34
theorem rexat_does (w : World) (a l : Nat) (ha : a ≤ 1099511627776) : Does Tryz.prog 145 #[.complex .f64 (fw a) (fw l)] w fun r w'=>r = .int .i64 (a : Int) ∧ w = w':=by
 refine does1 Tryz.func145 rfl (by kernel_rfl) ?_
 repeat' (first | refine xreal rfl ?_ | refine go1L ?_ | fail)
 refine xcallE rfl rfl (rpart_does w a ha) (fun r w1 h1=>?_)
 exact y16
theorem rexlong_does (w : World) (a l : Nat) (hl : l ≤ 1099511627776) : Does Tryz.prog 144 #[.complex .f64 (fw a) (fw l)] w fun r w'=>r = .int .i64 (l : Int) ∧ w = w':=by
 refine does1 Tryz.func144 rfl (by kernel_rfl) ?_
 repeat' (first | refine ximag rfl ?_ | refine go1L ?_ | fail)
 refine xcallE rfl rfl (rpart_does w l hl) (fun r w1 h1=>?_)
 exact y16
theorem xldch {hs : List Nat} {H : World → Prop} {full : Array Oper} {K : Env → World → Prop} {rest : List Oper} {env : Env} {w : World} {d : Tmp} {ty : TypeId} {pos : String} {af : Array Edge} {x : Operand} {p : Addr} {v : Value} (hx : evo env x = some (.pointer (some p))) (hc : ∀ w',H w' → w'.cell? p = some v)
  (h : xs Tryz.prog isI isS hs H full K rest ((d,v) :: env) w) (hm : memb hs (some d) = true:=by rfl) : xs Tryz.prog isI isS hs H full K (⟨some d,.load 170 x,ty,pos,af,none⟩ :: rest) env w:=by
 refine x_gen rfl (by simp [opsOK,Op.operands,hx]) ?_
 have hcl : clsO isI isS hs ⟨some d,.load 170 x,ty,pos,af,none⟩ = .h:=by simp [clsO,cls,hm]
 rw [hcl]
 refine ⟨v,fun w' hw'=>?_,h⟩
 have hag : (isAgg 170).run Tryz.prog w' = .ok false w':=by
  unfold isAgg
  simp only [Sem.run_bind,run_underlying Tryz.underlying170,Result.andThen_ok]
  simp
 simp [execOp,ev_of hx,Instr.loadAt,Instr.sureAddr,loadVar,hag,load,Sem.run,hc w' hw']
theorem rextmay_does (w : World) (v : Value) (l : List (Nat × Nat)) (size : Int) (hv : Rw exC w v l) (hl : exOK l) : Does Tryz.prog 110 #[v,.int .i64 size] w fun r w'=>r = .bool (decide (0 ≤ size) && decide (size ≤ 1099511627776) && extG size (-1) l) ∧ Ext w w':=by
 refine does2 Tryz.func110 rfl (by kernel_rfl) ?_
 obtain ⟨A,c,rfl,hc1,hc2,hA⟩:=hv.op exC_len
 by_cases h0 : ¬ 0 ≤ size
 ·refine goL ?_
  exact tret1 rfl rfl ⟨by simp [h0],Fr.refl _ _⟩
 have h0 : 0 ≤ size:=by omega
 by_cases h1 : ¬ size ≤ 1099511627776
 ·refine goL ?_
  exact tret1 rfl rfl ⟨by simp [h1],Fr.refl _ _⟩
 have h1 : size ≤ 1099511627776:=by omega
 rw [decide_eq_true h0,decide_eq_true h1,Bool.true_and,Bool.true_and]
 refine goL ?_
 refine tloop (α:=Nat × Int) (fun x=>[(0,.slice A l.length c),(1,.int .i64 size),(5,.int .i64 x.2),(6,.int .i64 (x.1 : Int))]) (fun x w'=>Ext w w' ∧ x.1 ≤ l.length ∧ extG size x.2 (l.drop x.1) = extG size (-1) l) (fun x=>l.length - x.1) (0,-1) (sub ⟨rfl,rfl,rfl,rfl⟩) ⟨Fr.refl _ _,Nat.zero_le _,rfl⟩ ?_
 rintro ⟨i,last⟩ w1 ⟨hE,hi,hgo⟩
 dsimp only at hE hi hgo ⊢
 by_cases hlt : i < l.length
 ·obtain ⟨b,o,p,rfl,_,hp,hdr,hcell⟩:=hA.at_ hlt
  have hb:=hl p (List.mem_of_getElem? hp)
  have k0:=hE.cell (hcell 0 _ rfl)
  rw [Nat.mul_one,Nat.add_zero] at k0
  have k0d : w1.drew.cell? ⟨b,o + i,none⟩ = some (.complex .f64 (fw p.1) (fw p.2)):=k0
  rw [hdr,extG] at hgo
  refine gz22 ?_
  refine xcallE rfl rfl (rexlong_does w1 p.1 p.2 hb.2) (fun r w2 h2=>?_)
  obtain ⟨rfl,rfl⟩:=h2
  by_cases g0 : p.2 = 0
  ·rw [decide_eq_false (by simpa using g0),Bool.false_and,Bool.false_and] at hgo
   refine goL ?_
   exact y24
  rw [decide_eq_true (show p.2 ≠ 0 from g0),Bool.true_and] at hgo
  refine gz22 ?_
  refine xcallE rfl rfl (rexat_does w1 p.1 p.2 hb.1) (fun r w2 h2=>?_)
  obtain ⟨rfl,rfl⟩:=h2
  by_cases g1 : last < p.1
  ·rw [decide_eq_true g1,Bool.true_and] at hgo
   refine goL ?_
   refine tdrawH [42] (fun w'=>w'.cell? ⟨b,o + i,none⟩ = some (.complex .f64 (fw p.1) (fw p.2))) (by kernel_rfl) (by decide +kernel) k0d ?_
   repeat' (first | refine xisq i (o + i) rfl rfl rfl rfl rfl hlt ?_ | refine xldc rfl k0d ?_ | refine go1L ?_ | fail)
   refine xcall rfl rfl (rexat_does w1.drew p.1 p.2 hb.1) ?_ ?_
   ·rintro r w2 ⟨rfl,rfl⟩
    repeat' (first | refine xisq i (o + i) rfl rfl rfl rfl rfl hlt ?_ | refine xldch rfl (fun w' h=>h) ?_ | refine go1L ?_ | fail)
    refine xcall rfl rfl (rexlong_does w1.drew p.1 p.2 hb.2) ?_ ?_
    ·rintro r w2 ⟨rfl,rfl⟩
     refine goL ?_
     exact tfin ⟨(i + 1,(p.1 : Int) + p.2),sub ⟨rfl,rfl,rfl,rfl⟩,⟨hE.d,by dsimp only;omega,hgo⟩,(by show l.length - (i + 1) < l.length - i;omega)⟩
    ·rintro r w2 ⟨_,rfl⟩
     exact k0d
   ·rintro r w2 ⟨_,rfl⟩
    exact k0d
  ·rw [decide_eq_false g1,Bool.false_and] at hgo
   refine goL ?_
   exact y24
 ·obtain rfl : i = l.length:=by omega
  rw [List.drop_length,extG] at hgo
  by_cases g : last ≤ size
  ·rw [decide_eq_true g] at hgo
   refine goL ?_
   exact y24
  ·rw [decide_eq_false g] at hgo
   refine goL ?_
   exact y24
theorem rbytes_does (w : World) (x : NdV) (hx : NdIn w x) (hb : bytesP x.n.data ≤ 1000000) : Does Tryz.prog 60 #[.agg (ndC x).toArray] w fun r w'=>r = .int .i64 (bytesP x.n.data : Int) ∧ Ext w w':=by
 refine does1 Tryz.func60 rfl (by kernel_rfl) ?_
 refine goL ?_
 refine xbox rfl (fun w1 hB1 hE1 hs1=>?_)
 have hB : Blk w1 w.heap.size 47 (ndC x).toArray:=hB1
 obtain ⟨A,c,evd,hc1,hc2,hA⟩:=hx.d.op pcC_len
 have k8 : w1.cell? ⟨w.heap.size,8,none⟩ = some (.slice A x.n.data.length c):=by rw [← evd];exact hB.cell 8
 obtain ⟨l,hl⟩ : ∃ l,l = x.n.data:=⟨_,rfl⟩
 rw [← hl] at hA hc1 k8 hb ⊢
 refine goL ?_
 refine tloop (α:=Nat) (fun i=>[(1,.pointer (some ⟨w.heap.size,0,none⟩)),(3,.int .i64 (bytesP (l.take i) : Int)),(4,.int .i64 (i : Int))]) (fun i w'=>w1 = w' ∧ i ≤ l.length) (fun i=>l.length - i) 0 (sub ⟨rfl,rfl,rfl⟩) ⟨rfl,Nat.zero_le _⟩ ?_
 rintro i w2 ⟨rfl,hi⟩
 by_cases hlt : i < l.length
 ·obtain ⟨b,o,p,rfl,_,hp,hdr,hcell⟩:=hA.at_ hlt
  have q1 : w1.cell? ⟨b,o + i * 2 + 1,none⟩ = some (.string (su p.data)):=hE1.cell (hcell 1 _ rfl)
  have hle:=bytesP_le l (i + 1)
  have htk:=bytesP_take hp
  refine gz7 ?_
  exact tfin ⟨i + 1,sub ⟨rfl,ieq (by omega),rfl⟩,⟨rfl,by omega⟩,(by show l.length - (i + 1) < l.length - i;omega)⟩
 ·obtain rfl : i = l.length:=by omega
  refine goL ?_
  exact tret1 rfl rfl ⟨by rw [List.take_length],hE1⟩
theorem rextents_does (w : World) (x : NdV) (hx : NdIn w x) (hp : x.n.data.all pceOK = true) (hb : bytesP x.n.data ≤ 1000000) (hn : x.n.data.length ≤ 1000) : Does Tryz.prog 111 #[.agg (ndC x).toArray] w fun r w'=>Ow exC 1 w' w.heap.size 170 r (exsP x.n.data) ∧ Ext w w':=by
 refine does1 Tryz.func111 rfl (by kernel_rfl) ?_
 refine goL ?_
 refine xbox rfl (fun w1 hB1 hE1 hs1=>?_)
 have hB : Blk w1 w.heap.size 47 (ndC x).toArray:=hB1
 obtain ⟨A,c,evd,hc1,hc2,hA⟩:=hx.d.op pcC_len
 have k8 : w1.cell? ⟨w.heap.size,8,none⟩ = some (.slice A x.n.data.length c):=by rw [← evd];exact hB.cell 8
 obtain ⟨l,hl⟩ : ∃ l,l = x.n.data:=⟨_,rfl⟩
 rw [← hl] at hA hc1 k8 hb hp hn ⊢
 refine goL ?_
 refine tloop (α:=Nat × Value) (fun y=>[(1,.pointer (some ⟨w.heap.size,0,none⟩)),(3,y.2),(4,.int .i64 (y.1 : Int))]) (ExI l w1) (fun y=>l.length - y.1) (0,.slice none 0 0) (sub ⟨rfl,rfl,rfl⟩) ⟨Nat.zero_le _,Ow.nil _ _ _,Fr.refl _ _⟩ ?_
 rintro ⟨i,v⟩ w2 ⟨hi,hown,hE2⟩
 dsimp only at hi hown hE2 ⊢
 have m8 : w2.cell? ⟨w.heap.size,8,none⟩ = some (.slice A l.length c):=hE2.cell k8
 have m8d : w2.drew.cell? ⟨w.heap.size,8,none⟩ = some (.slice A l.length c):=m8
 by_cases hlt : i < l.length
 ·obtain ⟨b,o,p,rfl,_,hp2,hdr,hcell⟩:=hA.at_ hlt
  have hm:=List.mem_of_getElem? hp2
  have hok:=List.all_eq_true.1 hp p hm
  simp only [pceOK,Bool.and_eq_true,decide_eq_true_eq] at hok
  have hlen:=bytes_mem hm
  obtain ⟨a,ha⟩:=Int.eq_ofNat_of_zero_le hok.1.2
  have q0 : w2.drew.cell? ⟨b,o + i * 2 + 0,none⟩ = some (.int .i64 (a : Int)):=by rw [← ha];exact hE2.cell (hE1.cell (hcell 0 _ rfl))
  have q1 : w2.drew.cell? ⟨b,o + i * 2 + 1,none⟩ = some (.string (su p.data)):=hE2.cell (hE1.cell (hcell 1 _ rfl))
  refine gz7 ?_
  refine xcallE rfl rfl (rof_does w2.drew a p.data.length (by omega) (by omega)) (fun r w5 h5=>?_)
  obtain ⟨rfl,rfl⟩:=h5
  refine goL ?_
  refine xbs (vs:=exC (a,p.data.length)) sl_cpl rfl rfl (by decide) (by decide) (fun u hu=>by rw [List.mem_singleton.1 hu];rfl) (fun w5 hB5 hE5 hs5=>?_)
  have hl1 : (exsP (l.take i)).length = i:=by simp [exsP];omega
  refine xapz (news:=exC (a,p.data.length)) sl_cpl rfl (by decide) rfl (OwnZ.ext (OwnZ.ext hown (Fr.drew _ _)) hE5) rfl (blk_row hB5 (by decide) rfl) rfl (fun u hu=>by rw [List.mem_singleton.1 hu];rfl) (by unfold maxLen;omega) (by omega) (by have:=hE2.size;have:=hE5.size;have : w2.drew.heap.size = w2.heap.size:=rfl;omega) (fun v' w6 hown6 hF6 hv6=>?_)
  have hown7 : Ow exC 1 w6 w1.heap.size 170 v' (exsP (l.take (i + 1))):=by
   have e : exsP (l.take (i + 1)) = exsP (l.take i) ++ [(a,p.data.length)]:=by
    unfold exsP
    rw [List.take_add_one,hp2,Option.toList_some,List.map_append,List.map_singleton,ha];rfl
   rw [e]
   exact Ow.ext1 (l':=[(a,p.data.length)]) (by simpa using hown6)
  refine goL ?_
  exact tfin ⟨(i + 1,v'),sub ⟨rfl,rfl,rfl⟩,⟨by dsimp only;omega,hown7,Ext.te (hE2.d.t hE5) hF6 fun j hj e=>by have:=(hown.blk e).1;omega⟩,(by show l.length - (i + 1) < l.length - i;omega)⟩
 ·exact y73
theorem fileOK_eq (n : Nd) : fileOK n = (n.data.all pceOK && (decide (0 ≤ n.size) && (decide (n.size ≤ 1099511627776) && (decide (bytesP n.data ≤ 4000) && (decide (n.data.length ≤ 16) && extOK n.size (-1) n.data))))):=by
 unfold fileOK
 cases n.data.all pceOK <;> cases decide (0 ≤ n.size) <;> cases decide (n.size ≤ 1099511627776) <;> cases decide (bytesP n.data ≤ 4000) <;> cases decide (n.data.length ≤ 16) <;> simp
theorem rdata_does (w : World) (x : NdV) (hx : NdIn w x) (hb : bytesP x.n.data ≤ 1000000) : Does Tryz.prog 81 #[.agg (ndC x).toArray] w fun r w'=>r = .bool (fileOK x.n) ∧ Ext w w':=by
 refine does1 Tryz.func81 rfl (by kernel_rfl) ?_
 rw [fileOK_eq]
 refine goL ?_
 refine xbox rfl (fun w1 hB1 hE1 hs1=>?_)
 have hB : Blk w1 w.heap.size 47 (ndC x).toArray:=hB1
 obtain ⟨A,c,evd,hc1,hc2,hA⟩:=hx.d.op pcC_len
 have k7 : w1.cell? ⟨w.heap.size,7,none⟩ = some (.int .i64 x.n.size):=hB.cell 7
 have k7d : w1.drew.cell? ⟨w.heap.size,7,none⟩ = some (.int .i64 x.n.size):=k7
 have k8 : w1.cell? ⟨w.heap.size,8,none⟩ = some (.slice A x.n.data.length c):=by rw [← evd];exact hB.cell 8
 obtain ⟨l,hl⟩ : ∃ l,l = x.n.data:=⟨_,rfl⟩
 have hb':=hb
 rw [← hl] at hA hc1 k8 hb' ⊢
 refine goL ?_
 refine tloop (α:=Nat) (fun i=>[(1,.pointer (some ⟨w.heap.size,0,none⟩)),(3,.int .i64 (i : Int))]) (fun i w'=>w1 = w' ∧ i ≤ l.length ∧ (l.drop i).all pceOK = l.all pceOK) (fun i=>l.length - i) 0 (sub ⟨rfl,rfl⟩) ⟨rfl,Nat.zero_le _,rfl⟩ ?_
 rintro i w2 ⟨rfl,hi,hgo⟩
 by_cases hlt : i < l.length
 ·obtain ⟨b,o,p,rfl,_,hp,hdr,hcell⟩:=hA.at_ hlt
  rw [hdr,List.all_cons] at hgo
  have q0 : w1.cell? ⟨b,o + i * 2 + 0,none⟩ = some (.int .i64 p.pos):=hE1.cell (hcell 0 _ rfl)
  have q1 : w1.cell? ⟨b,o + i * 2 + 1,none⟩ = some (.string (su p.data)):=hE1.cell (hcell 1 _ rfl)
  have e0 : p.data.length = 0 ↔ p.data = []:=List.length_eq_zero_iff
  cases hok : pceOK p with
  | false=>
   rw [hok,Bool.false_and] at hgo
   rw [← hgo,Bool.false_and]
   by_cases g2 : p.pos < 0
   ·refine gz7 ?_
    exact tret1 rfl rfl ⟨rfl,hE1⟩
   by_cases g3 : 1099511627776 < p.pos
   ·refine gz7 ?_
    exact tret1 rfl rfl ⟨rfl,hE1⟩
   have g1 : p.data.length = 0:=e0.2 ((pceOK_no hok).resolve_right (fun h=>h.elim g2 g3))
   refine gz7 ?_
   exact tret1 rfl rfl ⟨rfl,hE1⟩
  | true=>
   rw [hok,Bool.true_and] at hgo
   have hk:=hok
   simp only [pceOK,Bool.and_eq_true,decide_eq_true_eq] at hk
   obtain ⟨⟨g1,g2⟩,g3⟩:=hk
   have g1 : ¬ p.data.length = 0:=fun h=>g1 (e0.1 h)
   refine gz7 ?_
   exact y26
 ·have hil : i = l.length:=by omega
  subst hil
  rw [List.drop_length] at hgo
  have hall : x.n.data.all pceOK = true:=by rw [← hl,← hgo];rfl
  rw [← hgo,List.all_nil,Bool.true_and]
  have hBd : Blk w1.drew w.heap.size 47 (ndC x).toArray:=hB
  have k8d : w1.drew.cell? ⟨w.heap.size,8,none⟩ = some (.slice A l.length c):=k8
  refine goL ?_
  refine tdrawH [60] (fun w'=>w'.cell? ⟨w.heap.size,7,none⟩ = some (.int .i64 x.n.size)) (by kernel_rfl) (by decide +kernel) k7d ?_
  by_cases h0 : 0 ≤ x.n.size
  case neg=>
   refine goL ?_
   exact tret1 rfl rfl ⟨by simp [h0],hE1.d⟩
  by_cases h1 : x.n.size ≤ 1099511627776
  case neg=>
   refine goL ?_
   exact tret1 rfl rfl ⟨by simp [h1],hE1.d⟩
  rw [decide_eq_true h0,decide_eq_true h1,Bool.true_and,Bool.true_and]
  refine goL ?_
  refine xlda (t:=47) hBd rfl rfl ?_
  refine goL ?_
  refine xcall rfl rfl (rbytes_does w1.drew x (hx.ext hE1.d) hb) ?_ ?_
  ·rintro r w3 ⟨rfl,hE3⟩
   rw [← hl]
   have hE03:=hE1.d.t hE3
   have hB3 : Blk w3 w.heap.size 47 (ndC x).toArray:=hBd.ext hE3
   have k83 : w3.cell? ⟨w.heap.size,8,none⟩ = some (.slice A l.length c):=hE3.cell k8d
   by_cases g : bytesP l ≤ 4000
   case neg=>
    refine goL ?_
    exact tret1 rfl rfl ⟨by simp [g],hE03⟩
   by_cases g2 : l.length ≤ 16
   case neg=>
    refine goL ?_
    exact tret1 rfl rfl ⟨by simp [g2],hE03⟩
   rw [decide_eq_true g,decide_eq_true g2,Bool.true_and,Bool.true_and]
   refine goL ?_
   refine xlda (t:=47) hB3 rfl rfl ?_
   refine goL ?_
   refine xcall rfl rfl (rextents_does w3 x (hx.ext hE03) hall hb (by rw [← hl];omega)) ?_ ?_
   ·rintro r w4 ⟨hown,hE4⟩
    have hr:=hown.rw
    rw [← hl] at hr
    repeat' (first | refine xldh rfl rfl (fun w' h=>h) ?_ | refine go1L ?_ | fail)
    refine xcall rfl rfl (rextmay_does w4 r (exsP l) x.n.size hr (by rw [hl];exact exsP_ok hall hb)) ?_ ?_
    ·rintro r w5 ⟨rfl,hE5⟩
     rw [decide_eq_true h0,decide_eq_true h1,Bool.true_and,Bool.true_and,extG_eq _ _ _ (by rw [hl];exact hall)]
     refine goL ?_
     exact tret1 rfl rfl ⟨rfl,hE03.t (hE4.t hE5)⟩
    ·rintro r w5 ⟨_,hE5⟩
     exact hE5.cell (hE4.cell (hE3.cell k7d))
   ·rintro r w4 ⟨_,hE4⟩
    exact hE4.cell (hE3.cell k7d)
  ·rintro r w3 ⟨_,hE3⟩
   exact hE3.cell k7d
end
end Go.Proofs.YtbpmlbjapapoaaaGreatDoor.Eng
