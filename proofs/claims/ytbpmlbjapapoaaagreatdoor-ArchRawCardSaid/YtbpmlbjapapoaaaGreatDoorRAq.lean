/-
  Parts of the proof: Aq.
-/
import Derived.Test.YtbpmlbjapapoaaaGreatDoorRAp
import Derived.Test.YtbpmlbjapapoaaaGreatDoorRB10
import Derived.Test.YtbpmlbjapapoaaaGreatDoorRB16
import Derived.Test.YtbpmlbjapapoaaaGreatDoorRYe
set_option maxRecDepth 100000
set_option maxHeartbeats 64000000
namespace Go.Proofs.YtbpmlbjapapoaaaGreatDoor.Eng
open Go.RowKit
section
open Go.RowKit Go.Lib
attribute [local irreducible] xs T
section
variable {hs : List Nat} {H : World → Prop} {full : Array Oper} {K : Env → World → Prop} {rest : List Oper} {env : Env} {w : World} {d : Tmp} {dst : Option Tmp} {ty : TypeId} {pos : String} {af : Array Edge}
theorem xcvsb {x : Operand} {r : Str} (hx : evo env x = some (.string (su r))) (hl : r.length ≤ 1000000000)
  (h : ∀ v w',Row w' v r.length (bs r) → Ext w w' → xs Tryz.prog isI isS hs H full K rest ((d,v) :: env) w') (hH : ∀ w',Ext w w' → H w':=by intros;trivial) :
  xs Tryz.prog isI isS hs H full K (⟨some d,.convert 9 29 x,ty,pos,af,none⟩ :: rest) env w:=by
 have hsz : (su r).size = r.length:=su_size r
 have hE : Ext w (Lib.bytesWorld w 5 (su r)):=⟨rfl,rfl,rfl,by rw [Lib.bytesWorld_size];omega,fun j hj _=>Lib.bytesWorld_at_old w _ _ j hj⟩
 refine xw (by simp [opsOK,Op.operands,hx]) (by simp [cls,isI,isS];kernel_rfl) (v:=.slice (some ⟨w.heap.size,0,none⟩) (su r).size (grownCap w (su r).size 0 5)) (w':=Lib.bytesWorld w 5 (su r)) ?_ (h _ _ ?_ hE) (hH _ hE)
 ·simp [execOp,ev_of hx,Lib.run_convert_string_bytes (P:=Tryz.prog) w 9 29 5 (su r) Tryz.underlying9 Tryz.underlying29 Tryz.underlying5]
 ·rw [hsz]
  refine ⟨_,_,rfl,grownCap_ge _ _ _ _,grownCap_le_maxLen _ _ _ _ (by unfold maxLen;omega),fun _=>⟨_,0,rfl,by rw [Lib.bytesWorld_size];omega,fun j u hu=>?_⟩⟩
  have hj : j < r.length:=by
   have:=(List.getElem?_eq_some_iff.1 hu).1
   rwa [bs_len] at this
  rw [Nat.zero_add,Lib.bytesWorld_cell w _ _ j (by omega)]
  rw [bs_map,List.getElem?_map,List.getElem?_map,List.getElem?_eq_getElem hj] at hu
  rw [← Option.some.inj hu]
  have e : (su r).data.toList = r:=rfl
  rw [e,List.getD_eq_getElem?_getD,List.getElem?_eq_getElem hj]
  rfl
theorem xslh {t : TypeId} {x hi : Operand} {k' : IntKind} {A : Option Addr} {n c z : Nat} {vs : List Value} {jh : Int} (h : Nat) (hz : es t = some z) (hx : evo env x = some (.slice A n c)) (hr : Row w (.slice A n c) n vs) (hhi : evo env hi = some (.int k' jh)) (eh : jh = h) (h2 : h ≤ n)
  (hc : ∀ A',Row w (.slice A' h c) h (vs.take (h * z)) → xs Tryz.prog isI isS hs H full K rest ((d,.slice A' h c) :: env) w) :
  xs Tryz.prog isI isS hs H full K (⟨some d,.slice t x none (some hi) none,ty,pos,af,none⟩ :: rest) env w:=by
 obtain ⟨e,i,hu,hi',hsz⟩:=es_spec hz
 subst eh
 have hcc : n ≤ c:=by obtain ⟨A',c',e,h3,h4,h5⟩:=hr;injection e with e1 e2 e3;omega
 have hcut:=rowcut (z:=z) hr (Nat.zero_le h) h2
 rw [Nat.zero_mul,List.drop_zero,Nat.sub_zero,Nat.sub_zero] at hcut
 refine x_gen rfl (by simp [opsOK,Op.operands,hx,hhi]) ⟨_,fun w'=>?_,hc (if c = 0 then A else A.map (·.add 0)) hcut⟩
 have:=run_sl (A:=A) (n:=n) (c:=c) (lo:=none) (hi:=some (.int k' h)) (l:=0) (h:=h) hu hi' (.inl ⟨rfl,rfl⟩) (.inr ⟨k',rfl⟩) (by omega) (by omega) w'
 simp [execOp,ev_of hx,ev_of hhi,this]
theorem flat_tk {α : Type} {cf : α → List Value} {z : Nat} (hz : ∀ x,(cf x).length = z) : ∀ (l : List α) (k : Nat),(l.flatMap cf).take (k * z) = (l.take k).flatMap cf
 | [],k=>by simp
 | x :: l,0=>by simp
 | x :: l,k + 1=>by
  have e : (k + 1) * z = (cf x).length + k * z:=by rw [hz,Nat.succ_mul];omega
  rw [List.flatMap_cons,List.take_succ_cons,List.flatMap_cons,e,List.take_length_add_append,flat_tk hz l k]
theorem flat_setp {α : Type} {cf : α → List Value} {z : Nat} (hz : ∀ x,(cf x).length = z) {j : Nat} {vs : List Value} (hj : j + vs.length ≤ z) : ∀ {l : List α} {i : Nat} {x x' : α},l[i]? = some x → cf x' = (cf x).take j ++ vs ++ (cf x).drop (j + vs.length) → (l.flatMap cf).take (i * z + j) ++ vs ++ (l.flatMap cf).drop (i * z + j + vs.length) = (l.set i x').flatMap cf
 | [],i,x,x',h,_=>by simp at h
 | y :: l,0,x,x',h,h'=>by
  simp only [List.getElem?_cons_zero,Option.some.injEq] at h
  subst h
  have:=hz y
  rw [Nat.zero_mul,Nat.zero_add,List.flatMap_cons,List.set_cons_zero,List.flatMap_cons,h',List.take_append_of_le_length (by omega),List.drop_append_of_le_length (by omega),List.append_assoc,List.append_assoc,List.append_assoc]
 | y :: l,i + 1,x,x',h,h'=>by
  rw [List.getElem?_cons_succ] at h
  have ih:=flat_setp hz hj h h'
  have hy:=hz y
  have e1 : (i + 1) * z + j = (cf y).length + (i * z + j):=by rw [hy,Nat.succ_mul];omega
  have e2 : (i + 1) * z + j + vs.length = (cf y).length + (i * z + j + vs.length):=by rw [hy,Nat.succ_mul];omega
  rw [List.flatMap_cons,e2,e1,List.take_length_add_append,List.drop_length_add_append,List.append_assoc,List.append_assoc,← List.append_assoc ((l.flatMap cf).take _),ih,List.set_cons_succ,List.flatMap_cons]
theorem xstp {α : Type} {cf : α → List Value} {z B : Nat} (hz : ∀ x,(cf x).length = z) {t e : TypeId} {p y : Operand} {g n c q : Nat} {l : List α} {x x' : α} {vs : List Value} (i j : Nat) (hO : Ow cf z w B e (.slice (some ⟨g,0,none⟩) n c) l) (hx : evo env p = some (.pointer (some ⟨g,q,none⟩))) (hy : evo env y = some (.agg vs.toArray)) (hq : q = i * z + j) (hj : j + vs.length ≤ z) (ht : get l_agg t = some vs.length) (h1 : ∀ u ∈ vs,u.oneCell' = true) (hi : l[i]? = some x) (hx' : cf x' = (cf x).take j ++ vs ++ (cf x).drop (j + vs.length))
  (h : ∀ w',Ow cf z w' B e (.slice (some ⟨g,0,none⟩) n c) (l.set i x') → Fr (· = g) w w' → xs Tryz.prog isI isS hs H full K rest env w') (hH : ∀ w',Fr (· = g) w w' → H w':=by intros;trivial) : xs Tryz.prog isI isS hs H full K (⟨none,.store t p y,ty,pos,af,none⟩ :: rest) env w:=by
 subst hq
 have hlt:=(List.getElem?_eq_some_iff.1 hi).1
 obtain ⟨hl0,hO⟩:=hO
 rcases hO with ⟨e1,_⟩ | ⟨g',cap,cur,e1,hg,hh,h7,h8,h9,h10⟩
 ·cases e1
 injection e1 with e1 e2 e3
 injection e1 with e1
 injection e1 with e1
 subst e1;subst e2;subst e3
 have hle : i * z + z ≤ l.length * z:=by rw [← Nat.succ_mul];exact Nat.mul_le_mul_right z hlt
 have hle2 : l.length * z ≤ c * z:=Nat.mul_le_mul_right z h7
 refine xstk hh hx hy ht (by omega) h1 rfl (fun w' hB hF=>h w' ?_ hF) hH
 unfold Ow
 rw [List.length_set]
 have hcl : cur.toList.length = c * z:=by rw [Array.length_toList];exact h9
 refine ⟨by rw [flat_len hz,List.length_set],.inr ⟨g,c,_,rfl,hg,hB,h7,h8,?_,?_⟩⟩
 ·simp only [List.size_toArray,List.length_append,List.length_take,List.length_drop,hcl]
  omega
 ·rw [← flat_setp hz hj hi hx',← h10]
  have e3 : ∀ (L : List Value) (a b m : Nat) (vs : List Value),a + vs.length = b → b ≤ m → m ≤ L.length → (L.take a ++ vs ++ L.drop b).take m = (L.take m).take a ++ vs ++ (L.take m).drop b:=fun L a b m vs h1 h2 h3=>by
   have hab : (L.take a ++ vs).length = b:=by rw [List.length_append,List.length_take];omega
   rw [List.take_take,Nat.min_eq_left (by omega),List.take_append,List.take_of_length_le (by omega),hab,List.drop_take]
  exact e3 _ _ _ _ _ rfl (by omega) (by omega)
end
def outT (o : Option Tre) : Tre:=o.getD ⟨[],[]⟩
def outC (o : Option Tre) : Int:=if o.isSome then 0 else 3
theorem TreR.out {w : World} {rl : List RcV} {whole : Str} {v : Value} {w' : World} (h : TreR w rl whole v w') : Ext w w' ∧ ∃ ve vn nvs,v = .tuple #[.agg #[ve,vn],.int .i64 (outC (treeM (rl.map RcV.p) whole))] ∧ TrV w' ve vn nvs (outT (treeM (rl.map RcV.p) whole)):=by
 obtain ⟨hE,h⟩:=h
 refine ⟨hE,?_⟩
 cases ho : treeM (rl.map RcV.p) whole with
 | none=>
  rw [ho] at h
  exact ⟨_,_,[],h,⟨Rw.nil _ _ (by decide),Rw.nil _ _ (by decide),nofun,rfl⟩⟩
 | some t=>
  rw [ho] at h
  obtain ⟨ve,vn,nvs,h1,h2⟩:=h
  exact ⟨ve,vn,nvs,h1,h2⟩
def RcQ (r : RcP) : Prop:=r.path.length ≤ 1000000 ∧ NdL r.nd ∧ bytesP r.nd.data ≤ 1000000 ∧ r.nd.data.length ≤ 200 ∧ r.nd.target.length ≤ 1000000 ∧ ∀ p ∈ r.nd.data,p.data.length ≤ 1000000
theorem RcQ.zero {p : Str} {j q : Int} (h : p.length ≤ 1000000) : RcQ ⟨p,j,ndZ,q⟩:=⟨h,⟨Nat.zero_le _,Nat.zero_le _,Nat.zero_le _⟩,Nat.zero_le _,Nat.zero_le _,Nat.zero_le _,nofun⟩
theorem RcQ.bare {p : Str} {j q : Int} (h : p.length ≤ 1000000) (n : Nd) : RcQ ⟨p,j,bareN n,q⟩:=by
 obtain ⟨h1,h2⟩:=bare_ok n
 refine ⟨h,h1,h2,?_,?_,fun x hx=>Nat.le_trans (bytesP_mem hx) h2⟩
 ·show (bareN n).data.length ≤ 200
  unfold bareN
  split
  ·rename_i hn
   have:=(nodeOK_data hn).1
   show (n.data.map barP).length ≤ 200
   rw [List.length_map];omega
  ·exact Nat.zero_le _
 ·show (bareN n).target.length ≤ 1000000
  unfold bareN
  split
  ·rename_i hn
   have:=(nodeOK_data hn).2.2.2.2.2
   show n.target.length ≤ 1000000
   omega
  ·exact Nat.zero_le _
theorem recs_q (ns : List Nd) : ∀ (es : List En) (s : RS),(∀ e ∈ es,e.path.length ≤ 1000000) → (∀ r ∈ s.recs,RcQ r) → ∀ r ∈ (es.foldl (rstp ns) s).recs,RcQ r
 | [],_,_,h=>h
 | e :: r,s,hp,h=>by
  rw [List.foldl_cons]
  refine recs_q ns r _ (fun x hx=>hp x (List.mem_cons_of_mem _ hx)) fun q hq=>?_
  have he:=hp e List.mem_cons_self
  unfold rstp at hq
  split at hq
  ·rcases List.mem_append.1 hq with hq | hq
   ·exact h q hq
   ·rw [List.mem_singleton.1 hq];exact RcQ.bare he _
  ·rcases List.mem_append.1 hq with hq | hq
   ·exact h q hq
   ·rw [List.mem_singleton.1 hq];exact RcQ.zero he
structure RawI (w0 : World) (y : Value × List RcV × Str) (w : World) : Prop where
 x : Rw rcC w y.1 y.2.1
 q : ∀ r ∈ y.2.1,RcQ r.p
 i : ∀ r ∈ y.2.1,NdIn w r.nd
 l : y.2.1.length ≤ 1000
 b : y.2.2.length ≤ 1000000000
 ext : Ext w0 w
theorem set_all {α : Type} {P : α → Prop} {l : List α} {i : Nat} {x : α} (h : ∀ y ∈ l,P y) (hx : P x) : ∀ y ∈ l.set i x,P y:=fun y hy=>by
 rcases List.mem_or_eq_of_mem_set hy with hy | rfl
 ·exact h y hy
 ·exact hx
theorem archRaw_core (htold : ToldR22) (w0 : World) (v : Value) (zs : List Int) (hv : IRow w0 v zs) (zw zh zn : Int) (hP : PowT w0) : Does Tryz.prog 4 #[v,.int .i64 zw,.int .i64 zh,.int .i64 zn] w0 fun r w'=>r = .bool true ∧ Ext w0 w':=by
 refine does4 Tryz.func4 rfl (by kernel_rfl) ?_
 have hN : ∀ {a b c : World} {g : Nat},Ext a b → Fr (· = g) b c → a.heap.size ≤ g → Ext a c:=fun h1 h2 hg=>h1.trans h2 fun j hj e=>absurd hj (by omega)
 refine goL ?_
 refine xcallE rfl rfl (mk_does w0 v zs hv) (fun r w1 h1=>?_)
 obtain ⟨ve,vn,nvs,rfl,hT1,hE1⟩:=h1
 have hmay:=mkT_may (zs.map uN)
 have hlen26:=mkT_len (zs.map uN)
 obtain ⟨t,ht⟩ : ∃ t,t = mkT (zs.map uN):=⟨_,rfl⟩
 rw [← ht] at hT1 hmay hlen26
 have hns:=may_ns hmay
 have hone:=may_one hmay
 obtain ⟨ok1,ok2,ok3⟩:=may_ok hmay
 refine xcallE rfl rfl (rrecs_does w1 ve vn nvs t hT1 ok3 ok2 (by omega)) (fun r w2 h2=>?_)
 obtain ⟨hE2,h2⟩:=h2
 rw [if_pos hmay] at h2
 obtain ⟨vr,rl,rfl,hO2,hrp,hrk⟩:=h2
 have hE02:=hE1.t hE2
 have hrl : rl.length = t.es.length:=by
  have e1:=congrArg List.length hrp
  rw [List.length_map] at e1
  rw [e1]
  have:=rsts_recs (ns:=t.ns) (Nat.le_refl t.es.length)
  rw [List.take_length] at this
  exact this
 have hq : ∀ r ∈ rl,RcQ r.p:=fun r hr=>recs_q t.ns t.es (rst0 t.ns) ok3.p (fun r hr=>by cases hr) r.p (by
  have : r.p ∈ rl.map RcV.p:=List.mem_map_of_mem hr
  rw [hrp] at this;exact this)
 have hwl:=whole_le hmay
 obtain ⟨b,hb⟩ : ∃ b,b = (recsM t).whole:=⟨_,rfl⟩
 have hbl : b.length ≤ 400000:=by
  obtain ⟨_,h1,h2,_⟩:=guess_take hmay t.es.length (Nat.le_refl _)
  rw [List.take_length] at h1 h2
  rw [hb]
  show (rsts t.ns t.es).whole.length ≤ _
  omega
 rw [← hb]
 obtain ⟨Ar,cr,rfl,_,_⟩:=hO2.form
 refine goL ?_
 refine xbz0 sl_recs (fun w3 hO3 hE3 hs3=>?_)
 refine goL ?_
 refine xapz (B:=w2.heap.size) (news:=rl.flatMap rcC) sl_recs rfl (by decide) rfl hO3 rfl (Row.ext hO2.rw hE3) (flat_len rcC_len _) (rcC_one _ (fun x hx=>rc_one ((hrk x hx).in hE2))) (by unfold maxLen;omega) (by omega) (by omega) (fun v4 w4 hO4 hF4 _=>?_)
 rw [Nat.zero_add] at hO4
 have hO4' : Ow rcC 15 w4 w2.heap.size 49 v4 rl:=hO4
 have hE4 : Ext w2 w4:=hE3.te hF4 fun j hj e=>by
  have : w2.heap.size = j:=by simpa [Value.ownBlock] using e
  omega
 have hE04:=hE02.t hE4
 have hk4 : ∀ x ∈ rl,NdB w1 w4 x.nd:=fun x hx=>(hrk x hx).ext hE4
 obtain ⟨gx,cx,rfl,hgx,hgxl,_,_⟩:=hO4'.go (by omega)
 have hlx : (0 : Int) < (rl.length : Int):=by omega
 obtain ⟨k,hk⟩ : ∃ k,k = uN zw % rl.length:=⟨_,rfl⟩
 have hkl : k < rl.length:=by rw [hk];exact Nat.mod_lt _ (by omega)
 have hki : ((uN zw : Nat) : Int) % (rl.length : Int) = (k : Int):=by rw [hk];exact (Int.natCast_emod ..).symm
 have hua:=uN_lt zw
 have hub:=uN_lt zh
 obtain ⟨m,hm⟩ : ∃ m,m = uN zh % 7:=⟨_,rfl⟩
 have hm7 : m < 7:=by rw [hm];exact Nat.mod_lt _ (by decide)
 have hmi : ((uN zh : Nat) : Int) % 7 = (m : Int):=by rw [hm];exact (Int.natCast_emod ..).symm
 obtain ⟨r0,hr0⟩ : ∃ r0,rl[k]? = some r0:=⟨_,List.getElem?_eq_getElem hkl⟩
 have hr0m:=List.mem_of_getElem? hr0
 have hb1l : b.length ≤ 1000000000:=by omega
 have hkb : ∀ {w' : World},Ext w4 w' → ∀ x ∈ rl,NdIn w' x.nd:=fun h x hx=>((hk4 x hx).in (hE2.t hE4)).ext h
 have hst : ∀ {w' : World} {x : RcV},Ow rcC 15 w' w2.heap.size 49 (.slice (some ⟨gx,0,none⟩) rl.length cx) (rl.set k x) → Fr (· = gx) w4 w' → RcQ x.p → (x.nd = r0.nd ∨ x.nd = ndZV) → RawI w0 (.slice (some ⟨gx,0,none⟩) rl.length cx,rl.set k x,b) w':=fun {w' x} hO hF hQ hx=>by
  have hty : ∀ c cs,Blk w4 c 65 cs → ¬ c = gx:=fun c cs hc e=>by
   obtain ⟨cs',hc'⟩:=hO4'.typ (b:=gx) rfl
   exact hc.ne_ hc' (by decide) e
  have hE' : Ext w2 w':=hE4.trans hF fun j hj e=>by have e : j = gx:=e;omega
  have hall : ∀ y ∈ rl,NdIn w' y.nd:=fun y hy=>((hk4 y hy).fr hF hty).in (hE2.t hE')
  refine ⟨hO.rw,set_all hq hQ,set_all hall ?_,by rw [List.length_set];omega,hb1l,hE02.t hE'⟩
  rcases hx with e | e
  ·rw [e];exact hall r0 hr0m
  ·rw [e];exact ⟨Rw.nil _ _ (by decide),Rw.nil _ _ (by decide),Rw.nil _ _ (by decide)⟩
 have hq0:=hq r0 hr0m
 have hQs : ∀ {p : Str} {j q : Int},p.length ≤ 1000000 → RcQ ⟨p,j,r0.nd.n,q⟩:=fun h=>⟨h,hq0.2⟩
 repeat' (first | refine xcv (r:=((uN zw : Nat) : Int)) rfl rfl rfl (uN_eq zw) ?_ | refine xcv (r:=((uN zh : Nat) : Int)) rfl rfl rfl (uN_eq zh) ?_ | refine xmv rfl ?_ | refine xas rfl ?_ | refine xld rfl rfl (by with_reducible assumption) ?_ | refine xixn rfl rfl rfl (by omega) ?_ | refine xfa rfl rfl rfl ?_ | refine xln rfl rfl ?_ | refine xnil ?_ | refine xpk rfl rfl rfl rfl ?_ | refine xgy' rfl ?_ | refine xgn' rfl ?_ | refine xex rfl rfl ?_ | refine xnot rfl ?_ | refine xnc rfl ?_ | refine xeqn rfl rfl rfl ?_ | refine xnen rfl rfl rfl ?_ | refine xadd rfl rfl (by omega) (by omega) ?_ | refine xsub rfl rfl (by omega) (by omega) ?_ | refine xmul rfl rfl (by omega) (by omega) ?_ | refine xaddu rfl rfl (by omega) (by omega) ?_ | refine xsubu rfl rfl (by omega) (by omega) ?_ | refine xquo rfl rfl (by omega) (by omega) (by omega) ?_ | refine xrem rfl rfl (by omega) (by omega) (by omega) ?_ | refine xt_eql rfl rfl (by omega) ?_ | refine xf_eql rfl rfl (by omega) ?_ | refine xt_neq rfl rfl (by omega) ?_ | refine xf_neq rfl rfl (by omega) ?_ | refine xt_lss rfl rfl (by omega) ?_ | refine xf_lss rfl rfl (by omega) ?_ | refine xt_leq rfl rfl (by omega) ?_ | refine xf_leq rfl rfl (by omega) ?_ | refine xt_gtr rfl rfl (by omega) ?_ | refine xf_gtr rfl rfl (by omega) ?_ | refine xt_geq rfl rfl (by omega) ?_ | refine xf_geq rfl rfl (by omega) ?_ | refine tseq ?_ | refine tskip ?_ | refine treg (by kernel_rfl) ?_ | refine tdraw (by kernel_rfl) (by decide +kernel) ?_ | refine texit rfl ?_ | refine xdu (op:=.rem) rfl rfl rfl (by omega) (by omega) (by omega) ?_ | refine xdu (op:=.quo) rfl rfl rfl (by omega) (by omega) (by omega) ?_ | refine xcvi rfl rfl rfl (by omega) (by omega) ?_ | refine xcvu rfl rfl rfl (by omega) (by omega) ?_ | refine xcvuw rfl rfl rfl ?_ | refine xcvby rfl rfl rfl ?_ | fail)
 refine tcut (α:=Value × List RcV × Str) (fun y=>[(12,y.1),(10,.string (su y.2.2))]) (RawI w0) ?_ ?_
 ·have hcs : m = 0 ∨ m = 1 ∨ m = 2 ∨ m = 3 ∨ m = 4 ∨ m = 5 ∨ m = 6:=by omega
  rcases hcs with rfl | rfl | rfl | rfl | rfl | rfl | rfl
  ·refine gz16 ?_
   refine xstc rcC_len (x':=⟨r0.path,zn,r0.nd,r0.pos⟩) k 1 hO4' rfl rfl (by omega) (by omega) (by kernel_rfl) rfl hr0 rfl (fun w5 hO5 hF5=>?_)
   refine goL ?_
   exact tfin ⟨(_,_,b),sub ⟨rfl,rfl⟩,hst hO5 hF5 (hQs hq0.1) (.inl rfl)⟩
  ·refine gz16 ?_
   refine xstc rcC_len (x':=⟨r0.path,r0.lead,r0.nd,zn⟩) k 14 hO4' rfl rfl (by omega) (by omega) (by kernel_rfl) rfl hr0 rfl (fun w5 hO5 hF5=>?_)
   refine goL ?_
   exact tfin ⟨(_,_,b),sub ⟨rfl,rfl⟩,hst hO5 hF5 (hQs hq0.1) (.inl rfl)⟩
  ·refine gz16 ?_
   refine xstc rcC_len (x':=⟨[122,122],r0.lead,r0.nd,r0.pos⟩) k 0 hO4' rfl rfl (by omega) (by omega) (by kernel_rfl) rfl hr0 rfl (fun w5 hO5 hF5=>?_)
   refine goL ?_
   exact tfin ⟨(_,_,b),sub ⟨rfl,rfl⟩,hst hO5 hF5 (hQs (by show 2 ≤ 1000000;decide)) (.inl rfl)⟩
  ·refine gz16 ?_
   refine xbd (cells:=(ndC ndZV).toArray) rfl (by kernel_rfl) ?_
   refine gz16 ?_
   refine xstp rcC_len (vs:=ndC ndZV) (x':=⟨r0.path,r0.lead,ndZV,r0.pos⟩) k 2 hO4' rfl rfl (by omega) (by decide) (by kernel_rfl) (List.all_eq_true.1 (rfl : (ndC ndZV).all (·.oneCell') = true)) hr0 rfl (fun w5 hO5 hF5=>?_)
   refine goL ?_
   exact tfin ⟨(_,_,b),sub ⟨rfl,rfl⟩,hst hO5 hF5 (RcQ.zero hq0.1) (.inr rfl)⟩
  ·refine goL ?_
   refine xuadd rfl rfl (by show b.length + 1 ≤ _;omega) ?_
   refine goL ?_
   exact tfin ⟨(.slice (some ⟨gx,0,none⟩) rl.length cx,rl,b ++ [120]),sub ⟨rfl,rfl⟩,⟨hO4'.rw,hq,hkb (Fr.refl _ _),(by show rl.length ≤ 1000;omega),(by show (b ++ [120]).length ≤ _;rw [List.length_append];show b.length + 1 ≤ _;omega),hE04⟩⟩
  ·refine gz2 ?_
   refine xusl0 (b.length / 2) rfl rfl rfl (by omega) (by omega) ?_
   refine goL ?_
   exact tfin ⟨(.slice (some ⟨gx,0,none⟩) rl.length cx,rl,b.take (b.length / 2)),sub ⟨rfl,rfl⟩,⟨hO4'.rw,hq,hkb (Fr.refl _ _),(by show rl.length ≤ 1000;omega),(by show (b.take (b.length / 2)).length ≤ _;rw [List.length_take];omega),hE04⟩⟩
  ·refine goL ?_
   refine xslh k rfl rfl hO4'.rw rfl hki (by omega) (fun A' hA'=>?_)
   rw [flat_tk rcC_len] at hA'
   have htl : (rl.take k).length = k:=by rw [List.length_take];omega
   refine goL ?_
   refine tfin ⟨(.slice A' k cx,rl.take k,b),sub ⟨rfl,rfl⟩,⟨(by show Row w4 _ (rl.take k).length _;rw [htl];exact hA'),fun r hr=>hq r (List.mem_of_mem_take hr),fun r hr=>hkb (Fr.refl _ _) r (List.mem_of_mem_take hr),(by show (rl.take k).length ≤ 1000;omega),hb1l,hE04⟩⟩
 ·rintro ⟨vx,xl,bs'⟩ w5 ⟨hX,hXq,hXi,hXl,hXb,hE05⟩
  dsimp only at hX hXq hXi hXl hXb ⊢
  refine goL ?_
  refine xcvsb rfl hXb (fun vb w6 hW6 hE6=>?_)
  have hE06:=hE05.t hE6
  refine xcallE rfl rfl (tree_does w6 vx vb xl bs' (Row.ext hX hE6) (fun x hx=>⟨(hXi x hx).ext hE6,(hXq x hx).2.1,(hXq x hx).2.2.1⟩) hW6 hXb (hP.ext hE06)) (fun r w7 h7=>?_)
  obtain ⟨hE7,veA,vnA,nvA,rfl,hTA⟩:=h7.out
  have hE07:=hE06.t hE7
  have hX7:=Row.ext (Row.ext hX hE6) hE7
  have hoA : (#[veA,vnA] : Array Value).all (·.oneCell') = true:=by
   obtain ⟨A3,c3,rfl,_⟩:=hTA.e
   obtain ⟨A4,c4,rfl,_⟩:=hTA.n
   exact y49
  refine goL ?_
  refine xalloc (z:=.agg #[.slice none 0 0,.slice none 0 0]) (by kernel_rfl) (fun w8 hB8 hE8 hs8=>?_)
  refine xsta hB8 rfl rfl (by kernel_rfl) rfl hoA (fun w9 hB9 hF9=>?_)
  have hE9 : Ext w7 w9:=hN hE8 hF9 (Nat.le_refl _)
  have hE09:=hE07.t hE9
  have hE59:=(hE6.t hE7).t hE9
  refine goL ?_
  refine xcallE rfl rfl (treeof_does w9 vx xl bs' (Row.ext hX7 hE9) (fun x hx=>⟨(hXi x hx).ext hE59,(hXq x hx).2.1,(hXq x hx).2.2.2.1,(hXq x hx).2.2.2.2.1,(hXq x hx).2.2.2.2.2,(hXq x hx).1⟩) hXb hXl) (fun r w10 h10=>?_)
  obtain ⟨hE10,veB,vnB,nvB,rfl,hTB⟩:=h10.out
  have hE010:=hE09.t hE10
  have hoB : (#[veB,vnB] : Array Value).all (·.oneCell') = true:=by
   obtain ⟨A3,c3,rfl,_⟩:=hTB.e
   obtain ⟨A4,c4,rfl,_⟩:=hTB.n
   exact y49
  refine goL ?_
  refine xalloc (z:=.agg #[.slice none 0 0,.slice none 0 0]) (by kernel_rfl) (fun w11 hB11 hE11 hs11=>?_)
  refine xsta hB11 rfl rfl (by kernel_rfl) rfl hoB (fun w12 hB12 hF12=>?_)
  have hE12 : Ext w10 w12:=hN hE11 hF12 (Nat.le_refl _)
  have hE012:=hE010.t hE12
  refine goL ?_
  refine xcallE rfl rfl (htold w12) (fun r w13 h13=>?_)
  obtain ⟨rfl,hE13⟩:=h13
  have hE013:=hE012.t hE13
  have hE913:=(hE10.t hE12).t hE13
  refine goL ?_
  refine xlda (t:=25) (hB9.ext hE913) rfl rfl ?_
  refine goL ?_
  refine xlda (t:=25) (hB12.ext hE13) rfl rfl ?_
  refine goL ?_
  refine xcallE rfl rfl (alike_does w13 veA vnA veB vnB nvA nvB _ _ (hTA.ext (hE9.t hE913)) (hTB.ext (hE12.t hE13))) (fun r w14 h14=>?_)
  obtain ⟨rfl,hE14⟩:=h14
  rw [alike_refl]
  refine goL ?_
  exact tret1 rfl rfl ⟨rfl,hE013.t hE14⟩
end
end Go.Proofs.YtbpmlbjapapoaaaGreatDoor.Eng
