/-
  Parts of the proof: Wf.
-/
import Derived.Laws.Cover2
import Derived.Laws.Cover3
import Derived.Laws.FloatArith
import Derived.Test.YtbpmlbjapapoaaaGreatDoorRWd
set_option maxRecDepth 100000
set_option maxHeartbeats 64000000
namespace Go.Proofs.YtbpmlbjapapoaaaGreatDoor.Eng
open Go.RowKit
section
section
variable {hs : List Nat} {H : World → Prop} {full : Array Oper} {K : Env → World → Prop} {rest : List Oper} {env : Env} {w : World} {d : Tmp} {ty : TypeId} {pos : String} {af : Array Edge}
theorem xcpl {t u : TypeId} {x y : Operand} {a b : Nat} (hx : evo env x = some (.float .f64 a)) (hy : evo env y = some (.float .f64 b))
  (h : xs Tryz.prog isI isS hs noH full K rest ((d,.complex .f64 a b) :: env) w) : xs Tryz.prog isI isS hs noH full K (⟨some d,.call { callee:=.builtin .complex,args:=⟨[x,y]⟩,argTypes:=⟨[t,u]⟩ },ty,pos,af,none⟩ :: rest) env w:=by
 refine xw (v:=.complex .f64 a b) (w':=w) (by simp [opsOK,Op.operands,Call.operands,hx,hy]) rfl ?_ h True.intro
 simp [execOp,resolve,invoke,builtin,ev_of hx,ev_of hy,run_complex]
theorem xreal {t : TypeId} {x : Operand} {a b : Nat} (hx : evo env x = some (.complex .f64 a b))
  (h : xs Tryz.prog isI isS hs noH full K rest ((d,.float .f64 a) :: env) w) : xs Tryz.prog isI isS hs noH full K (⟨some d,.call { callee:=.builtin .real,args:=⟨[x]⟩,argTypes:=⟨[t]⟩ },ty,pos,af,none⟩ :: rest) env w:=by
 refine xw (v:=.float .f64 a) (w':=w) (by simp [opsOK,Op.operands,Call.operands,hx]) rfl ?_ h True.intro
 simp [execOp,resolve,invoke,builtin,ev_of hx,run_real]
theorem ximag {t : TypeId} {x : Operand} {a b : Nat} (hx : evo env x = some (.complex .f64 a b))
  (h : xs Tryz.prog isI isS hs noH full K rest ((d,.float .f64 b) :: env) w) : xs Tryz.prog isI isS hs noH full K (⟨some d,.call { callee:=.builtin .imag,args:=⟨[x]⟩,argTypes:=⟨[t]⟩ },ty,pos,af,none⟩ :: rest) env w:=by
 refine xw (v:=.float .f64 b) (w':=w) (by simp [opsOK,Op.operands,Call.operands,hx]) rfl ?_ h True.intro
 simp [execOp,resolve,invoke,builtin,ev_of hx,run_imag]
theorem xcif {x : Operand} {k : IntKind} {jz : Int} (n : Nat) (hx : evo env x = some (.int k jz)) (hj : jz = n)
  (h : xs Tryz.prog isI isS hs noH full K rest ((d,.float .f64 (fw n)) :: env) w) : xs Tryz.prog isI isS hs noH full K (⟨some d,.convert 2 216 x,ty,pos,af,none⟩ :: rest) env w:=by
 subst hj
 refine xw (v:=.float .f64 (fw n)) (w':=w) (by simp [opsOK,Op.operands,hx]) (by kernel_rfl) ?_ h True.intro
 simp [execOp,ev_of hx,run_convert_int_float (P:=Tryz.prog) w 2 216 k .f64 (n : Int) (by rw [Tryz.underlying2];rfl) Tryz.underlying216,floatOfInt,fw]
theorem xcfi {x : Operand} {n : Nat} (hx : evo env x = some (.float .f64 (fw n))) (hn : n ≤ 1099511627776)
  (h : xs Tryz.prog isI isS hs noH full K rest ((d,.int .i64 (n : Int)) :: env) w) : xs Tryz.prog isI isS hs noH full K (⟨some d,.convert 216 2 x,ty,pos,af,none⟩ :: rest) env w:=by
 refine xw (v:=.int .i64 (n : Int)) (w':=w) (by simp [opsOK,Op.operands,hx]) (by kernel_rfl) ?_ h True.intro
 have hv : floatToIntVal .f64 (fw n) .i64 = some (n : Int):=by
  unfold floatToIntVal
  rw [fw_int (by omega)]
  dsimp only
  rw [if_pos (by simp [IntKind.min,IntKind.max,IntKind.signed,IntKind.bits];omega)]
 simp [execOp,ev_of hx,run_convert_float_int (P:=Tryz.prog) w 216 2 .f64 .i64 (fw n) n (by rw [Tryz.underlying216];rfl) Tryz.underlying2 hv]
theorem xfgt {t yt : TypeId} {x y : Operand} {a b : Nat} (hx : evo env x = some (.float .f64 (fw a))) (hy : evo env y = some (.float .f64 (fw b))) (ha : a ≤ 1099511627776) (hb : b ≤ 1099511627776) {r : Bool} (hr : decide (b < a) = r)
  (h : xs Tryz.prog isI isS hs H full K rest ((d,.bool r) :: env) w) : xs Tryz.prog isI isS hs H full K (⟨some d,.binOp .gtr t x y yt,ty,pos,af,none⟩ :: rest) env w:=by
 refine x_bin hx hy (by rfl) (fun w'=>?_) h
 have hc : (binOp .gtr t (.float .f64 (fw a)) (.float .f64 (fw b))) = pure (.bool (FloatKind.f64.format.order (fw a) (fw b) == some .gt)):=by simp [binOp,Op.floatCmp]
 rw [hc,fw_ord (by omega) (by omega),← hr]
 rcases Nat.lt_trichotomy a b with h | h | h
 ·rw [Nat.compare_eq_lt.2 h,decide_eq_false (by omega)];rfl
 ·rw [Nat.compare_eq_eq.2 h,decide_eq_false (by omega)];rfl
 ·rw [Nat.compare_eq_gt.2 h,decide_eq_true h];rfl
theorem xldc {x : Operand} {p : Addr} {v : Value} (hx : evo env x = some (.pointer (some p))) (hc : w.cell? p = some v)
  (h : xs Tryz.prog isI isS hs H full K rest ((d,v) :: env) w) (hm : memb hs (some d) = false:=by rfl) : xs Tryz.prog isI isS hs H full K (⟨some d,.load 170 x,ty,pos,af,none⟩ :: rest) env w:=by
 refine x_gen rfl (by simp [opsOK,Op.operands,hx]) ?_
 have hcl : clsO isI isS hs ⟨some d,.load 170 x,ty,pos,af,none⟩ = .r:=by simp [clsO,cls,hm]
 rw [hcl]
 refine ⟨v,?_,h⟩
 have hag : (isAgg 170).run Tryz.prog w = .ok false w:=by
  unfold isAgg
  simp only [Sem.run_bind,run_underlying Tryz.underlying170,Result.andThen_ok]
  simp
 simp [execOp,ev_of hx,Instr.loadAt,Instr.sureAddr,loadVar,hag,load,Sem.run,hc]
end
theorem pcC_all (p : Pce) : (pcC p).toArray.all (·.oneCell') = true:=by simp [pcC,Value.oneCell']
attribute [local irreducible] xs T
theorem fw_max : fw 1099511627776 = 4787326403894837248:=by decide +kernel
theorem limit_does (w : World) (v : Int) : Does Tryz.prog 176 #[.int .i64 v] w fun r w'=>r = .int .i64 (min (max v 0) 1099511627776) ∧ w = w':=by
 refine does1 Tryz.func176 rfl (by kernel_rfl) ?_
 refine goLM ?_
 exact y4
theorem part_does (w : World) (n : Nat) (hn : n ≤ 1099511627776) : Does Tryz.prog 175 #[.float .f64 (fw n)] w fun r w'=>r = .int .i64 (n : Int) ∧ w = w':=by
 refine does1 Tryz.func175 rfl (by kernel_rfl) ?_
 have em : ∀ env : Env,evo env (.const (.float .f64 4787326403894837248)) = some (.float .f64 (fw 1099511627776)):=fun env=>by rw [fw_max];rfl
 have ez : ∀ env : Env,evo env (.const (.float .f64 0)) = some (.float .f64 (fw 0)):=fun env=>by rw [fw_zero];rfl
 by_cases h0 : n = 0
 ·subst h0
  repeat' (first | refine xfgt (r:=false) rfl (em _) (by omega) (by omega) (by decide) ?_ | refine xfgt (r:=false) rfl (ez _) (by omega) (by omega) (by decide) ?_ | refine go1L ?_ | fail)
  exact y4
 ·repeat' (first | refine xfgt (r:=false) rfl (em _) hn (by omega) (decide_eq_false (by omega)) ?_ | refine xfgt (r:=true) rfl (ez _) hn (by omega) (decide_eq_true (by omega)) ?_ | refine xcfi rfl hn ?_ | refine go1L ?_ | fail)
  exact y4
theorem of_does (w : World) (a l : Nat) (ha : a ≤ 1099511627776) (hl : l ≤ 1099511627776) : Does Tryz.prog 135 #[.int .i64 (a : Int),.int .i64 (l : Int)] w fun r w'=>r = .complex .f64 (fw a) (fw l) ∧ w = w':=by
 refine does2 Tryz.func135 rfl (by kernel_rfl) ?_
 refine goL ?_
 refine xcallE rfl rfl (limit_does w a) (fun r w1 h1=>?_)
 obtain ⟨rfl,rfl⟩:=h1
 rw [show min (max (a : Int) 0) 1099511627776 = (a : Int) from by omega]
 repeat' (first | refine xcif a rfl rfl ?_ | refine go1L ?_ | fail)
 refine xcallE rfl rfl (limit_does w l) (fun r w1 h1=>?_)
 exact y34
theorem exat_does (w : World) (a l : Nat) (ha : a ≤ 1099511627776) : Does Tryz.prog 133 #[.complex .f64 (fw a) (fw l)] w fun r w'=>r = .int .i64 (a : Int) ∧ w = w':=by
 refine does1 Tryz.func133 rfl (by kernel_rfl) ?_
 repeat' (first | refine xreal rfl ?_ | refine go1L ?_ | fail)
 refine xcallE rfl rfl (part_does w a ha) (fun r w1 h1=>?_)
 exact y16
theorem exlong_does (w : World) (a l : Nat) (hl : l ≤ 1099511627776) : Does Tryz.prog 132 #[.complex .f64 (fw a) (fw l)] w fun r w'=>r = .int .i64 (l : Int) ∧ w = w':=by
 refine does1 Tryz.func132 rfl (by kernel_rfl) ?_
 repeat' (first | refine ximag rfl ?_ | refine go1L ?_ | fail)
 refine xcallE rfl rfl (part_does w l hl) (fun r w1 h1=>?_)
 exact y16
theorem exend_does (w : World) (a l : Nat) (ha : a ≤ 1099511627776) (hl : l ≤ 1099511627776) : Does Tryz.prog 134 #[.complex .f64 (fw a) (fw l)] w fun r w'=>r = .int .i64 ((a : Int) + l) ∧ w = w':=by
 refine does1 Tryz.func134 rfl (by kernel_rfl) ?_
 refine goL ?_
 refine xcallE rfl rfl (exat_does w a l ha) (fun r w1 h1=>?_)
 obtain ⟨rfl,rfl⟩:=h1
 refine goL ?_
 refine xcallE rfl rfl (exlong_does w a l hl) (fun r w1 h1=>?_)
 exact y16
def exC (p : Nat × Nat) : List Value:=[.complex .f64 (fw p.1) (fw p.2)]
theorem exC_len (p : Nat × Nat) : (exC p).length = 1:=rfl
def extG (size : Int) : Int → List (Nat × Nat) → Bool
 | last,[]=>decide (last ≤ size)
 | last,p :: r=>decide (p.2 ≠ 0) && decide (last < p.1) && extG size ((p.1 : Int) + p.2) r
def exOK (l : List (Nat × Nat)) : Prop:=∀ p ∈ l,p.1 ≤ 1099511627776 ∧ p.2 ≤ 1099511627776
theorem extmay_does (w : World) (v : Value) (l : List (Nat × Nat)) (size : Int) (hv : Rw exC w v l) (hl : exOK l) : Does Tryz.prog 104 #[v,.int .i64 size] w fun r w'=>r = .bool (decide (0 ≤ size) && decide (size ≤ 1099511627776) && extG size (-1) l) ∧ w = w':=by
 refine does2 Tryz.func104 rfl (by kernel_rfl) ?_
 obtain ⟨A,c,rfl,hc1,hc2,hA⟩:=hv.op exC_len
 by_cases h0 : ¬ 0 ≤ size
 ·refine goL ?_
  exact tret1 rfl rfl ⟨by simp [h0],rfl⟩
 have h0 : 0 ≤ size:=by omega
 by_cases h1 : ¬ size ≤ 1099511627776
 ·refine goL ?_
  exact tret1 rfl rfl ⟨by simp [h1],rfl⟩
 have h1 : size ≤ 1099511627776:=by omega
 rw [decide_eq_true h0,decide_eq_true h1,Bool.true_and,Bool.true_and]
 refine goL ?_
 refine tloop (α:=Nat × Int) (fun x=>[(1,.int .i64 size),(5,.int .i64 x.2),(14,.slice A l.length c),(15,.int .i64 (l.length : Int)),(16,.int .i64 (x.1 : Int))]) (fun x w'=>w = w' ∧ x.1 ≤ l.length ∧ extG size x.2 (l.drop x.1) = extG size (-1) l) (fun x=>l.length - x.1) (0,-1) (sub ⟨rfl,rfl,rfl,rfl,rfl⟩) ⟨rfl,Nat.zero_le _,rfl⟩ ?_
 rintro ⟨i,last⟩ w1 ⟨rfl,hi,hgo⟩
 dsimp only at hi hgo ⊢
 by_cases hlt : i < l.length
 ·obtain ⟨b,o,p,rfl,_,hp,hdr,hcell⟩:=hA.at_ hlt
  have hb:=hl p (List.mem_of_getElem? hp)
  have k0:=hcell 0 _ rfl
  rw [Nat.mul_one,Nat.add_zero] at k0
  rw [hdr,extG] at hgo
  refine gz22 ?_
  refine xcallE rfl rfl (exlong_does w p.1 p.2 hb.2) (fun r w1 h1=>?_)
  obtain ⟨rfl,rfl⟩:=h1
  by_cases g0 : p.2 = 0
  ·rw [decide_eq_false (by simpa using g0),Bool.false_and,Bool.false_and] at hgo
   exact y43
  rw [decide_eq_true (show p.2 ≠ 0 from g0),Bool.true_and] at hgo
  refine goL ?_
  refine xcallE rfl rfl (exat_does w p.1 p.2 hb.1) (fun r w1 h1=>?_)
  obtain ⟨rfl,rfl⟩:=h1
  by_cases g1 : last < p.1
  ·rw [decide_eq_true g1,Bool.true_and] at hgo
   refine goL ?_
   refine xcallE rfl rfl (exend_does w p.1 p.2 hb.1 hb.2) (fun r w1 h1=>?_)
   obtain ⟨rfl,rfl⟩:=h1
   refine goL ?_
   exact tfin ⟨(i + 1,(p.1 : Int) + p.2),sub ⟨rfl,rfl,rfl,rfl,rfl⟩,⟨rfl,by dsimp only;omega,hgo⟩,(by show l.length - (i + 1) < l.length - i;omega)⟩
  ·rw [decide_eq_false g1,Bool.false_and] at hgo
   exact y43
 ·obtain rfl : i = l.length:=by omega
  rw [List.drop_length,extG] at hgo
  by_cases g : last ≤ size
  ·rw [decide_eq_true g] at hgo
   exact y43
  ·rw [decide_eq_false g] at hgo
   exact y43
theorem bytes_mem : ∀ {l : List Pce} {p : Pce},p ∈ l → p.data.length ≤ bytesP l
 | [],p,h=>by simp at h
 | q :: r,p,h=>by
  rw [bytesP]
  rcases List.mem_cons.1 h with rfl | h
  ·omega
  ·have:=bytes_mem h;omega
theorem bytesP_app : ∀ (a b : List Pce),bytesP (a ++ b) = bytesP a + bytesP b
 | [],b=>by simp [bytesP]
 | p :: a,b=>by rw [List.cons_append,bytesP,bytesP,bytesP_app a b];omega
theorem bytesP_take {l : List Pce} {i : Nat} {p : Pce} (h : l[i]? = some p) : bytesP (l.take (i + 1)) = bytesP (l.take i) + p.data.length:=by
 rw [List.take_add_one,h,Option.toList_some,bytesP_app];simp [bytesP]
theorem bytesP_le (l : List Pce) (i : Nat) : bytesP (l.take i) ≤ bytesP l:=by
 have:=bytesP_app (l.take i) (l.drop i)
 rw [List.take_append_drop] at this;omega
theorem bytes_does (w : World) (x : NdV) (hx : NdIn w x) (hb : bytesP x.n.data ≤ 1000000) : Does Tryz.prog 103 #[.agg (ndC x).toArray] w fun r w'=>r = .int .i64 (bytesP x.n.data : Int) ∧ Ext w w':=by
 refine does1 Tryz.func103 rfl (by kernel_rfl) ?_
 refine goL ?_
 refine xbox rfl (fun w1 hB1 hE1 hs1=>?_)
 have hB : Blk w1 w.heap.size 47 (ndC x).toArray:=hB1
 obtain ⟨A,c,evd,hc1,hc2,hA⟩:=hx.d.op pcC_len
 have k8 : w1.cell? ⟨w.heap.size,8,none⟩ = some (.slice A x.n.data.length c):=by rw [← evd];exact hB.cell 8
 obtain ⟨l,hl⟩ : ∃ l,l = x.n.data:=⟨_,rfl⟩
 rw [← hl] at hA hc1 k8 hb ⊢
 refine goL ?_
 refine tloop (α:=Nat) (fun i=>[(3,.int .i64 (bytesP (l.take i) : Int)),(7,.slice A l.length c),(8,.int .i64 (l.length : Int)),(9,.int .i64 (i : Int))]) (fun i w'=>Ext w1 w' ∧ i ≤ l.length) (fun i=>l.length - i) 0 (sub ⟨rfl,rfl,rfl,rfl⟩) ⟨Fr.refl _ _,Nat.zero_le _⟩ ?_
 rintro i w2 ⟨hE2,hi⟩
 by_cases hlt : i < l.length
 ·obtain ⟨b,o,p,rfl,_,hp,hdr,hcell⟩:=hA.at_ hlt
  have hpc : ∀ j u,(pcC p)[j]? = some u → w2.cell? ⟨b,o + i * 2 + j,none⟩ = some u:=fun j u hu=>hE2.cell (hE1.cell (hcell j u hu))
  have hle:=bytesP_le l (i + 1)
  have htk:=bytesP_take hp
  refine gz4 ?_
  refine xldz (cs:=pcC p) rfl rfl hpc ?_
  refine xalloc (z:=.agg #[.int .i64 0,.string ⟨#[]⟩]) (by kernel_rfl) (fun w3 hB3 hE3 hs3=>?_)
  refine xsta (cs:=(pcC p).toArray) hB3 rfl rfl rfl rfl (pcC_all p) (fun w4 hB4 hF4=>?_)
  have hE4 : Ext w2 w4:=Ext.te hE3 hF4 fun j hj e=>by have e' : j = w2.heap.size:=e;omega
  have q1 : w4.cell? ⟨w2.heap.size,1,none⟩ = some (.string (su p.data)):=hB4.cell 1
  refine gz2 ?_
  exact tfin ⟨i + 1,sub ⟨ieq (by omega),rfl,rfl,rfl⟩,⟨hE2.t hE4,by omega⟩,(by show l.length - (i + 1) < l.length - i;omega)⟩
 ·obtain rfl : i = l.length:=by omega
  refine goL ?_
  exact tret1 rfl rfl ⟨by rw [List.take_length],hE1.t hE2⟩
def exsP (l : List Pce) : List (Nat × Nat):=l.map fun p=>(p.pos.toNat,p.data.length)
theorem sl_cpl : SlT 154 170 (.complex .f64 0 0) 1 16:=slT Tryz.underlying154 (by kernel_rfl)
structure ExI (l : List Pce) (w1 : World) (x : Nat × Value) (w : World) : Prop where
 i : x.1 ≤ l.length
 own : Ow exC 1 w w1.heap.size 170 x.2 (exsP (l.take x.1))
 ext : Ext w1 w
theorem extents_does (w : World) (x : NdV) (hx : NdIn w x) (hp : x.n.data.all pceOK = true) (hb : bytesP x.n.data ≤ 1000000) (hn : x.n.data.length ≤ 1000) : Does Tryz.prog 105 #[.agg (ndC x).toArray] w fun r w'=>Ow exC 1 w' w.heap.size 170 r (exsP x.n.data) ∧ Ext w w':=by
 refine does1 Tryz.func105 rfl (by kernel_rfl) ?_
 refine goL ?_
 refine xbox rfl (fun w1 hB1 hE1 hs1=>?_)
 have hB : Blk w1 w.heap.size 47 (ndC x).toArray:=hB1
 obtain ⟨A,c,evd,hc1,hc2,hA⟩:=hx.d.op pcC_len
 have k8 : w1.cell? ⟨w.heap.size,8,none⟩ = some (.slice A x.n.data.length c):=by rw [← evd];exact hB.cell 8
 obtain ⟨l,hl⟩ : ∃ l,l = x.n.data:=⟨_,rfl⟩
 rw [← hl] at hA hc1 k8 hb hp hn ⊢
 refine goL ?_
 refine tloop (α:=Nat × Value) (fun y=>[(3,y.2),(7,.slice A l.length c),(8,.int .i64 (l.length : Int)),(9,.int .i64 (y.1 : Int))]) (ExI l w1) (fun y=>l.length - y.1) (0,.slice none 0 0) (sub ⟨rfl,rfl,rfl,rfl⟩) ⟨Nat.zero_le _,Ow.nil _ _ _,Fr.refl _ _⟩ ?_
 rintro ⟨i,v⟩ w2 ⟨hi,hown,hE2⟩
 dsimp only at hi hown hE2 ⊢
 by_cases hlt : i < l.length
 ·obtain ⟨b,o,p,rfl,_,hp2,hdr,hcell⟩:=hA.at_ hlt
  have hpc : ∀ j u,(pcC p)[j]? = some u → w2.cell? ⟨b,o + i * 2 + j,none⟩ = some u:=fun j u hu=>hE2.cell (hE1.cell (hcell j u hu))
  have hm:=List.mem_of_getElem? hp2
  have hok:=List.all_eq_true.1 hp p hm
  simp only [pceOK,Bool.and_eq_true,decide_eq_true_eq] at hok
  have hlen:=bytes_mem hm
  obtain ⟨a,ha⟩:=Int.eq_ofNat_of_zero_le hok.1.2
  refine gz4 ?_
  refine xldz (cs:=pcC p) rfl rfl hpc ?_
  refine xalloc (z:=.agg #[.int .i64 0,.string ⟨#[]⟩]) (by kernel_rfl) (fun w3 hB3 hE3 hs3=>?_)
  refine xsta (cs:=(pcC p).toArray) hB3 rfl rfl rfl rfl (pcC_all p) (fun w4 hB4 hF4=>?_)
  have hE4 : Ext w2 w4:=Ext.te hE3 hF4 fun j hj e=>by have e' : j = w2.heap.size:=e;omega
  have q0 : w4.cell? ⟨w2.heap.size,0,none⟩ = some (.int .i64 (a : Int)):=by rw [← ha];exact hB4.cell 0
  have q1 : w4.cell? ⟨w2.heap.size,1,none⟩ = some (.string (su p.data)):=hB4.cell 1
  refine gz2 ?_
  refine xcallE rfl rfl (of_does w4 a p.data.length (by omega) (by omega)) (fun r w5 h5=>?_)
  obtain ⟨rfl,rfl⟩:=h5
  refine goL ?_
  refine xbs (vs:=exC (a,p.data.length)) sl_cpl rfl rfl (by decide) (by decide) (fun u hu=>by rw [List.mem_singleton.1 hu];rfl) (fun w5 hB5 hE5 hs5=>?_)
  have hl1 : (exsP (l.take i)).length = i:=by simp [exsP];omega
  refine xapz (news:=exC (a,p.data.length)) sl_cpl rfl (by decide) rfl (OwnZ.ext hown (hE4.t hE5)) rfl (blk_row hB5 (by decide) rfl) rfl (fun u hu=>by rw [List.mem_singleton.1 hu];rfl) (by unfold maxLen;omega) (by omega) (by have:=hE2.size;have:=hE4.size;have:=hE5.size;omega) (fun v' w6 hown6 hF6 hv6=>?_)
  have hown7 : Ow exC 1 w6 w1.heap.size 170 v' (exsP (l.take (i + 1))):=by
   have e : exsP (l.take (i + 1)) = exsP (l.take i) ++ [(a,p.data.length)]:=by
    unfold exsP
    rw [List.take_add_one,hp2,Option.toList_some,List.map_append,List.map_singleton,ha];rfl
   rw [e]
   exact Ow.ext1 (l':=[(a,p.data.length)]) (by simpa using hown6)
  refine goL ?_
  exact tfin ⟨(i + 1,v'),sub ⟨rfl,rfl,rfl,rfl⟩,⟨by dsimp only;omega,hown7,Ext.te (hE2.t (hE4.t hE5)) hF6 fun j hj e=>by have:=(hown.blk e).1;omega⟩,(by show l.length - (i + 1) < l.length - i;omega)⟩
 ·exact y73
end
end Go.Proofs.YtbpmlbjapapoaaaGreatDoor.Eng
