/-
  Parts of the proof: Yd, Yg.
-/
import Derived.Test.YtbpmlbjapapoaaaGreatDoorRB0b
import Derived.Test.YtbpmlbjapapoaaaGreatDoorRB9
import Derived.Test.YtbpmlbjapapoaaaGreatDoorRWp
import Derived.Test.YtbpmlbjapapoaaaGreatDoorRWv
import Derived.Test.YtbpmlbjapapoaaaGreatDoorRYc
set_option maxRecDepth 100000
set_option maxHeartbeats 64000000
namespace Go.Proofs.YtbpmlbjapapoaaaGreatDoor.Eng
open Go.RowKit
section
section
variable {hs : List Nat} {H : World → Prop} {full : Array Oper} {K : Env → World → Prop} {rest : List Oper} {env : Env} {w : World} {d : Tmp} {ty : TypeId} {pos : String} {af : Array Edge}
theorem fill_many {size : Nat} {css : List (List Value)} (hn : ∀ cs ∈ css,cs.length = size) (h0 : 0 < size) (init : Array Value) (hi : init.size = css.length * size) : Instr.fill (fun i=>some (i * size,size)) init ((css.zipIdx 0).map fun x=>(x.2,Value.agg x.1.toArray)) = some css.flatten.toArray:=by
 obtain ⟨r,hr,hsz,hk⟩:=Great.fill_dense (s:=size) h0 (css.map fun cs=>Value.agg cs.toArray) 0 init (fun v hv=>by
  obtain ⟨cs,hcs,rfl⟩:=List.mem_map.1 hv
  exact hn cs hcs) (by rw [hi,List.length_map];simp)
 have e1 : (((css.map fun cs=>Value.agg cs.toArray).zipIdx 0).map fun x=>(x.2,x.1)) = ((css.zipIdx 0).map fun x=>(x.2,Value.agg x.1.toArray)):=by
  rw [List.zipIdx_map,List.map_map];rfl
 rw [e1] at hr
 rw [hr]
 congr 1
 have hfl : ∀ (l : List (List Value)),(∀ cs ∈ l,cs.length = size) → l.flatten.length = l.length * size:=by
  intro l
  induction l with
  | nil=>intro _;simp
  | cons x l ih=>intro h;rw [List.flatten_cons,List.length_append,ih (fun cs hcs=>h cs (by simp [hcs])),h x (by simp),List.length_cons,Nat.succ_mul];omega
 have hget : ∀ (l : List (List Value)),(∀ cs ∈ l,cs.length = size) → ∀ k,k < l.length * size → l.flatten[k]? = (l[k / size]?).bind fun cs=>cs[k % size]?:=by
  intro l
  induction l with
  | nil=>intro _ k hk;simp at hk
  | cons x l ih=>
   intro h k hk
   have hx:=h x (by simp)
   rw [List.flatten_cons]
   by_cases hlt : k < size
   ·rw [List.getElem?_append_left (by omega),Nat.div_eq_of_lt hlt,Nat.mod_eq_of_lt hlt];rfl
   ·rw [List.length_cons,Nat.succ_mul] at hk
    rw [List.getElem?_append_right (by omega),hx,ih (fun cs hcs=>h cs (by simp [hcs])) (k - size) (by omega)]
    have e2 : k / size = (k - size) / size + 1:=by
     rw [← Nat.add_div_right _ h0,Nat.sub_add_cancel (by omega)]
    have e3 : k % size = (k - size) % size:=by
     conv=>lhs;rw [← Nat.sub_add_cancel (show size ≤ k by omega),Nat.add_mod_right]
    rw [e2,e3];rfl
 apply Array.ext_getElem?
 intro k
 rw [hk k,List.length_map]
 simp only [Nat.zero_mul,Nat.zero_le,true_and,Nat.zero_add,Nat.sub_zero,List.getElem?_toArray]
 by_cases hlt : k < css.length * size
 ·rw [if_pos hlt,hget css hn k hlt,List.getElem?_map]
  cases css[k / size]? with
  | none=>rfl
  | some cs=>simp [Value.cells]
 ·rw [if_neg hlt,Array.getElem?_eq_none (by omega),List.getElem?_eq_none (by rw [hfl css hn];omega)]
def evz (env : Env) : Nat → List (Nat × Operand) → Option (List (List Value))
 | _,[]=>some []
 | k,(j,x) :: r=>match Nat.beq j k,evo env x,evz env (k + 1) r with
  | true,some (.agg cs),some css=>some (cs.toList :: css)
  | _,_,_=>none
theorem evz_spec : ∀ {l : List (Nat × Operand)} {k : Nat} {css : List (List Value)},evz env k l = some css → (l.map fun p=>(p.1,ev env p.2)) = (css.zipIdx k).map (fun x=>(x.2,Value.agg x.1.toArray)) ∧ ∀ p ∈ l,(evo env p.2).isSome = true
 | [],k,css,h=>by injection h with h;subst h;exact ⟨rfl,by simp⟩
 | (j,x) :: r,k,css,h=>by
  simp only [evz] at h
  split at h
  ·rename_i cs css' hb hv hvs;injection h with h;subst h
   obtain ⟨h1,h2⟩:=evz_spec hvs
   have hj:=Nat.eq_of_beq_eq_true hb
   subst hj
   refine ⟨by simp [ev_of hv,h1,List.zipIdx_cons],fun p hp=>(List.mem_cons.1 hp).elim (fun e=>by rw [e,hv];rfl) (h2 p)⟩
  ·cases h
theorem xbzn {t e : TypeId} {z : Value} {size bytes n : Nat} {parts : List (Nat × Operand)} {css : List (List Value)} (hT : SlT t e z size bytes) (hx : evz env 0 parts = some css) (hn : ∀ cs ∈ css,cs.length = size) (hl : css.length = n) (h0 : 0 < size) (h1 : 0 < n) (hs2 : n * size ≤ 10000)
  (h : ∀ w',Blk w' w.heap.size e css.flatten.toArray → Ext w w' → w'.heap.size = w.heap.size + 1 → xs Tryz.prog isI isS hs H full K rest ((d,.slice (some ⟨w.heap.size,0,none⟩) n n) :: env) w') (hH : ∀ w',Ext w w' → H w':=by intros;trivial) :
  xs Tryz.prog isI isS hs H full K (⟨some d,.buildSlice t n parts.toArray,ty,pos,af,none⟩ :: rest) env w:=by
 obtain ⟨hu,i,hi,hz,hsi,hby⟩:=hT
 obtain ⟨he,ho⟩:=evz_spec hx
 refine xw (by simp only [opsOK,Op.operands];rw [List.all_eq_true];intro x hx;simp at hx;obtain ⟨j,hj⟩:=hx;exact ho _ hj) rfl (v:=.slice (some ⟨w.heap.size,0,none⟩) n n) (w':=w.alloc (.cells css.flatten.toArray e)) ?_ (h _ (Blk.new _ _ _) (Fr.alloc _ _ _) (by simp)) (hH _ (Fr.alloc _ _ _))
 have hns : n ≤ n * size:=Nat.le_mul_of_pos_right n h0
 have hr:=run_buildSlice (P:=Tryz.prog) w t e n ((parts.map fun p=>(p.1,ev env p.2)).toArray) css.flatten.toArray i z hu hi hz (by rw [hsi];omega) (by rw [hsi];have : 0 < n * size:=Nat.mul_pos h1 h0;omega) (by
  rw [hsi]
  show Instr.fill _ _ (parts.map fun p=>(p.1,ev env p.2)) = _
  rw [he]
  exact fill_many hn h0 _ (by simp [hl]))
 have e2 : (parts.toArray.map fun x=>match x with | (i,x)=>(i,ev env x)) = (parts.map fun p=>(p.1,ev env p.2)).toArray:=by simp
 simp only [execOp]
 rw [e2]
 simp [hr]
end
attribute [local irreducible] xs T
def naC (k : Nat) : List Value:=[.int .i64 (k : Int)]
theorem naC_len (k : Nat) : (naC k).length = 1:=rfl
theorem node_small {n : Nd} (h : nodeOK n = true) : bytesP n.data ≤ 4000 ∧ n.target.length ≤ 200:=by
 by_cases h2 : n.kind = 2
 ·have hf:=node_file h h2
  have:=(file_iff n).1 hf
  refine ⟨this.2.2.2.1,?_⟩
  unfold nodeOK at h
  rw [h2] at h
  simp [noText] at h
  rw [h.2.1.2]
  simp
 ·have key : n.data = [] ∧ n.target.length ≤ 200:=by
   unfold nodeOK at h
   rw [if_neg h2] at h
   split at h
   ·simp [noData,noText] at h
    exact ⟨h.2.1.1.2,by rw [h.2.1.2];simp⟩
   ·split at h
    ·simp [noData] at h
     exact ⟨h.2.1.1.1.1.2,h.2.1.2⟩
    ·split at h
     ·simp [noData,noText] at h
      exact ⟨h.2.1.1.1.1.1.2,by rw [h.2.1.1.1.1.2];simp⟩
     ·simp at h
  rw [key.1]
  exact ⟨by simp [bytesP],key.2⟩
structure MkW where
 i : Nat
 m : MkS
 va : Value
 vf : Value
 ve : Value
 vn : Value
 nv : List NdV
structure MkI (zs : List Int) (w0 : World) (g3 : Nat) (x : MkW) (w : World) : Prop where
 ext : Ext w0 w
 i : x.i ≤ zs.length ∧ x.i ≤ 25
 m : x.m = ((zs.take x.i).map uN).foldl mkStep mkZero
 res : Blk w w0.heap.size 25 #[.slice none 0 0,.slice none 0 0]
 tre : Blk w g3 25 #[x.ve,x.vn]
 oe : Ow enC 2 w w0.heap.size 53 x.ve x.m.es
 on : Ow ndC 12 w w0.heap.size 47 x.vn x.nv
 od : Ow stC 1 w w0.heap.size 9 x.va x.m.dirs
 of : Ow naC 1 w w0.heap.size 3 x.vf x.m.files
 nd : x.nv.map (·.n) = x.m.ns
 ndk : ∀ y ∈ x.nv,NdK w y
theorem MkI.ext' {zs : List Int} {w0 w w' : World} {g3 : Nat} {x : MkW} (h : MkI zs w0 g3 x w) (hE : Ext w w') : MkI zs w0 g3 x w':=
 ⟨h.ext.t hE,h.i,h.m,h.res.ext hE,h.tre.ext hE,h.oe.ext hE,h.on.ext hE,h.od.ext hE,h.of.ext hE,h.nd,fun y hy=>(h.ndk y hy).ext hE⟩
structure MkM (w0 : World) (g3 : Nat) (m : MkS) (va vf ve vn : Value) (nv : List NdV) (w : World) : Prop where
 ext : Ext w0 w
 res : Blk w w0.heap.size 25 #[.slice none 0 0,.slice none 0 0]
 tre : Blk w g3 25 #[ve,vn]
 oe : Ow enC 2 w w0.heap.size 53 ve m.es
 on : Ow ndC 12 w w0.heap.size 47 vn nv
 od : Ow stC 1 w w0.heap.size 9 va m.dirs
 of : Ow naC 1 w w0.heap.size 3 vf m.files
 nd : nv.map (·.n) = m.ns
 ndk : ∀ y ∈ nv,NdK w y
theorem MkM.ext' {w0 w w' : World} {g3 : Nat} {m : MkS} {va vf ve vn : Value} {nv : List NdV} (h : MkM w0 g3 m va vf ve vn nv w) (hE : Ext w w') : MkM w0 g3 m va vf ve vn nv w':=
 ⟨h.ext.t hE,h.res.ext hE,h.tre.ext hE,h.oe.ext hE,h.on.ext hE,h.od.ext hE,h.of.ext hE,h.nd,fun y hy=>(h.ndk y hy).ext hE⟩
theorem MkM.node {w0 w w' : World} {g3 g12 : Nat} {m : MkS} {va vf ve vn : Value} {nv : List NdV} {cs : Array Value} (h : MkM w0 g3 m va vf ve vn nv w) (hB : Blk w g12 47 cs) (h0 : w0.heap.size < g12) (hn : ∀ b,vn.ownBlock = some b → b < g12) (hF : Fr (· = g12) w w') : MkM w0 g3 m va vf ve vn nv w':=by
 have hne : ∀ {b : Nat} {t : TypeId} {c : Array Value},Blk w b t c → t ≠ 47 → ¬ b = g12:=fun hb ht e=>hb.ne_ hB ht e
 refine ⟨h.ext.trans hF fun j hj e=>absurd hj (by omega),h.res.fr hF (show ¬ w0.heap.size = g12 by omega),h.tre.fr hF (hne h.tre (by decide)),h.oe.fr hF fun b hb=>?_,h.on.fr hF fun b hb=>?_,h.od.fr hF fun b hb=>?_,h.of.fr hF fun b hb=>?_,h.nd,fun y hy=>(h.ndk y hy).fr hF (Away.one hB (by decide))⟩
 ·obtain ⟨c,hc⟩:=h.oe.typ hb;exact hne hc (by decide)
 ·have:=hn b hb;show ¬ b = g12;omega
 ·obtain ⟨c,hc⟩:=h.od.typ hb;exact hne hc (by decide)
 ·obtain ⟨c,hc⟩:=h.of.typ hb;exact hne hc (by decide)
structure MkN (g12 : Nat) (x : NdV) (n : Nd) (w : World) : Prop where
 blk : Blk w g12 47 (ndC x).toArray
 k : NdK w x
 n : x.n = n
theorem MkN.ext {g12 : Nat} {x : NdV} {n : Nd} {w w' : World} (h : MkN g12 x n w) (hE : Ext w w') : MkN g12 x n w':=⟨h.blk.ext hE,h.k.ext hE,h.n⟩
theorem mkStep_new {m : MkS} {u : Nat} {p : Str} (hj : joinP (m.dirs.getD (u % m.dirs.length) []) (mkNames.getD (u / 7 % 7) []) = some p) (hf : (findT m.es p).isSome = false) {n : Nd} {ds : List Str} {fs : List Nat}
  (h : (u / 3 % 9 < 2 ∧ n = { mkNode u with kind:=1 } ∧ ds = m.dirs ++ [p] ∧ fs = m.files) ∨ (¬ u / 3 % 9 < 2 ∧ ¬ (u / 3 % 9 = 2 ∧ 0 < m.files.length) ∧ ds = m.dirs ∧
   ((u / 3 % 9 = 3 ∧ n = { mkNode u with kind:=3,target:=[46,46,47] ++ p } ∧ fs = m.files) ∨ (u / 3 % 9 ≠ 3 ∧ u / 3 % 9 = 4 ∧ n = { mkNode u with kind:=4,major:=(u % 300 : Nat),minor:=(u / 2 % 300 : Nat) } ∧ fs = m.files) ∨
    (u / 3 % 9 ≠ 3 ∧ u / 3 % 9 ≠ 4 ∧ u / 3 % 9 = 5 ∧ n = { mkNode u with kind:=6 } ∧ fs = m.files) ∨ (u / 3 % 9 ≠ 3 ∧ u / 3 % 9 ≠ 4 ∧ u / 3 % 9 ≠ 5 ∧ n = mkFile u p (mkNode u) ∧ fs = m.files ++ [m.ns.length])))) :
  mkStep m u = ⟨m.es ++ [⟨p,(m.ns.length : Int)⟩],m.ns ++ [n],ds,fs⟩:=by
 unfold mkStep
 rw [hj]
 dsimp only
 rw [if_neg (by rw [hf];decide)]
 rcases h with ⟨h1,rfl,rfl,rfl⟩ | ⟨h1,h2,rfl,h⟩
 ·rw [if_pos h1];rfl
 ·rw [if_neg h1,if_neg h2]
  rcases h with ⟨h3,rfl,rfl⟩ | ⟨h3,h4,rfl,rfl⟩ | ⟨h3,h4,h5,rfl,rfl⟩ | ⟨h3,h4,h5,rfl,rfl⟩
  ·rw [if_pos h3];rfl
  ·rw [if_neg h3,if_pos h4];rfl
  ·rw [if_neg h3,if_neg h4,if_pos h5];rfl
  ·rw [if_neg h3,if_neg h4,if_neg h5];rfl
end
section
attribute [local irreducible] xs T
theorem may_nodes {t : Tre} (h : mayT t = true) : ∀ n ∈ t.ns,nodeOK n = true:=by
 obtain ⟨es,ns⟩:=t
 unfold mayT at h
 simp only [Bool.and_eq_true,decide_eq_true_eq] at h
 have:=((ordB_iff ns es none 0 (Nat.zero_le _)).1 h.1.1.2).2.2.2.1
 intro n hn
 obtain ⟨i,hi,rfl⟩:=List.getElem_of_mem hn
 have h2:=this i (Nat.zero_le _) hi
 rwa [List.getD_eq_getElem?_getD,List.getElem?_eq_getElem hi] at h2
theorem node_rows {n : Nd} (h : nodeOK n = true) : NdL n:=by
 have hm : metaOK n = true:=by
  unfold nodeOK at h
  rw [Bool.and_eq_true] at h
  exact h.1
 unfold metaOK aclOK at hm
 simp only [Bool.and_eq_true,decide_eq_true_eq] at hm
 refine ⟨by omega,by omega,?_⟩
 by_cases h2 : n.kind = 2
 ·have:=(file_pc (node_file h h2)).2.2.2.2;omega
 ·have hb:=(node_small h).1
  have key : n.data = []:=by
   unfold nodeOK at h
   rw [if_neg h2] at h
   split at h
   ·simp [noData,noText] at h
    exact h.2.1.1.2
   ·split at h
    ·simp [noData] at h
     exact h.2.1.1.1.1.2
    ·split at h
     ·simp [noData,noText] at h
      exact h.2.1.1.1.1.1.2
     ·simp at h
  rw [key];exact Nat.zero_le _
theorem may_ok {t : Tre} (h : mayT t = true) : NsOK t.ns ∧ (∀ n ∈ t.ns,NdL n) ∧ TsOK t:=by
 have hn:=may_nodes h
 have h1 : NsOK t.ns:=fun n hnn=>by have:=(node_small (hn n hnn)).1;omega
 exact ⟨h1,fun n hnn=>node_rows (hn n hnn),⟨h1,fun n hnn=>by have:=(node_small (hn n hnn)).2;omega,fun e he=>by have:=mayP_len (mayT_path h e he);omega⟩⟩
theorem may_ns {t : Tre} (h : mayT t = true) : t.ns.length ≤ t.es.length:=by
 rw [← first_all h]
 have key : ∀ (l : List En) (u : Nat),finU u l ≤ u + l.length:=by
  intro l
  induction l with
  | nil=>intro u;exact Nat.le_refl _
  | cons e l ih=>
   intro u
   rw [finU]
   have:=ih (if e.node < u then u else u + 1)
   rw [List.length_cons]
   split at this <;> rename_i hh
   ·rw [if_pos hh];omega
   ·rw [if_neg hh];omega
 have:=key t.es 0
 omega
theorem may_one {t : Tre} (h : mayT t = true) : 1 ≤ t.es.length:=by
 unfold mayT at h
 simp only [Bool.and_eq_true,decide_eq_true_eq] at h
 exact h.1.1.1.1
end
end Go.Proofs.YtbpmlbjapapoaaaGreatDoor.Eng
