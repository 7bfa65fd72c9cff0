/-
  Parts of the proof: Eyh, Eyi, Ha, He, Hf, Eo, Eoa, Eob, Row.
-/
import Derived.Below
import Derived.Carry
import Derived.ChangeSame
import Derived.ChangeSlices
import Derived.ProofKit
import Derived.Test.YtbpmlbjapapoaaaGreatDoorRows
import Derived.Test.YtbpmlbjapapoaaaGreatDoorRB0a
import Derived.Test.YtbpmlbjapapoaaaGreatDoorRB0c
set_option maxRecDepth 100000
set_option maxHeartbeats 64000000
namespace Go.Proofs.YtbpmlbjapapoaaaGreatDoor
open Go.RowKit
namespace Eng
namespace Rn
def St (w0 : Fm) (N m : Nat) (ρ : Pl) (e : En) (σ : Mem) (a : Act) (w : World) : Prop:=∃ ρ' env,Up ρ ρ' ∧ ER m ρ' e env ∧ MR w0 ρ' σ w ∧ Fits N env a
def exM : Ex → Exit → Prop
 | .nrm,.normal=>True
 | .ext n,.exit k=>n = k
 | .gto n,.goto k=>n = k
 | .ret,.ret=>True
 | _,_=>False
def Post (w0 : Fm) (N m : Nat) (ρ : Pl) (res : Rs) : Exit → Act → World → Prop:=fun ex a w=>∃ x e σ,res = .mk x e σ ∧ exM x ex ∧ St w0 N m ρ e σ a w
theorem frOK_inv {hs : List Nat} {ops : Array Oper} {A : Array Nat} {f : Nat} {x : Fr0} (h : frOK hs ops A f = some x) : ∃ d op ty pos af pre post opre opost,ops[f]? = some ⟨some d,op,ty,pos,af,none⟩ ∧ isMk op = true ∧ readsT op d = false ∧ freeB hs ops A f post (List.range ops.size) pre = true ∧ opsAt ops.toList (pre.map Prod.fst) = some opre ∧ opsAt ops.toList post = some opost ∧ farF d op (opre.zip (pre.map Prod.snd)) = true ∧ x = ⟨hs,opre.zip (pre.map Prod.snd),d,⟨some d,op,ty,pos,af,none⟩,opost⟩:=by
 unfold frOK at h
 split at h
 ·rename_i d op ty pos af hof
  split at h
  ·rename_i pre post hm hp
   rw [Bool.and_eq_true,Bool.not_eq_true'] at hm
   split at h
   ·rename_i opre opost h1 h2 h3
    split at h
    ·rename_i h4
     exact ⟨d,op,ty,pos,af,pre,post,opre,opost,hof,hm.1,hm.2,h1,h2,h3,h4,(Option.some.inj h).symm⟩
    ·cases h
   ·cases h
  ·cases h
 ·cases h
theorem cutR_free {ops : Array Oper} {x : Fr0} : ∀ {l : List Nat},cutR ops l ≠ .free x
 | [],h=>by cases h
 | q :: l,h=>by
  have h' : cN q (fun k=>(match seqOK2 isI isS (ldK ops k) k ops (Region.before ops) with
   | true=>Rk.held k
   | false=>cutR ops l : Rk)) = Rk.free x:=h
  rw [cN_eq] at h'
  split at h'
  ·cases h'
  ·exact cutR_free h'
theorem findSome_mem {α β : Type} {f : α → Option β} {b : β} : ∀ {l : List α},l.findSome? f = some b → ∃ a,f a = some b
 | [],h=>by cases h
 | a :: l,h=>by
  rw [List.findSome?_cons] at h
  split at h
  ·rename_i b' hb
   exact ⟨a,by rw [hb];exact h⟩
  ·exact findSome_mem h
theorem zip_fst {α β : Type} : ∀ {l : List α} {m : List β},l.length = m.length → (l.zip m).map Prod.fst = l
 | [],_,_=>rfl
 | _ :: _,[],h=>by cases h
 | a :: l,b :: m,h=>by rw [List.zip_cons_cons,List.map_cons,zip_fst (by simpa using h)]
theorem zip_snd {α β : Type} : ∀ {l : List α} {m : List β},l.length = m.length → (l.zip m).map Prod.snd = m
 | [],[],_=>rfl
 | [],_ :: _,h=>by cases h
 | _ :: _,[],h=>by cases h
 | a :: l,b :: m,h=>by rw [List.zip_cons_cons,List.map_cons,zip_snd (by simpa using h)]
theorem pick_cut {z y : Rk} {q : Bool} {f : Option Fr0} (hy : (match z with
 | .bad=>match q with
  | true=>match f with
   | some x=>Rk.free x
   | none=>.bad
  | false=>.bad
 | x=>x) = y) (h1 : ∀ x,y ≠ .free x) (h2 : y ≠ .bad) : z = y:=by
 cases z with
 | bad=>
  cases q with
  | true=>
   cases f with
   | some x=>exact absurd hy.symm (h1 x)
   | none=>exact absurd hy.symm h2
  | false=>exact absurd hy.symm h2
 | text=>exact hy
 | held k=>exact hy
 | free x=>exact hy
section
variable {w0 : Fm} {N m : Nat} {ih : Cl} {res : Rs} (hr : res ≠ .no)
include hr
theorem sqK_inv {g : En → Mem → Rs} {r : Rs} (h : sqK g r = res) : ∃ x e σ,r = .mk x e σ ∧ ((x = .nrm ∧ g e σ = res) ∨ (x ≠ .nrm ∧ res = .mk x e σ)):=by
 cases r with
 | no=>exact absurd h.symm hr
 | mk x e σ=>
  refine ⟨x,e,σ,rfl,?_⟩
  cases x with
  | nrm=>exact .inl ⟨rfl,h⟩
  | ext n=>exact .inr ⟨fun hh=>(by cases hh),h.symm⟩
  | gto n=>exact .inr ⟨fun hh=>(by cases hh),h.symm⟩
  | ret=>exact .inr ⟨fun hh=>(by cases hh),h.symm⟩
  | val v=>exact absurd h.symm hr
omit hr in
theorem en_nil {ρ : Pl} {e : En} {env : Env} (hE : ER m ρ e env) : ER m ρ ⟨e.vs,[],[],[]⟩ env:=fun t x hx=>by
 refine hE t x ?_
 unfold elk at hx ⊢
 cases hk : kept m t with
 | true=>rw [hk] at hx;exact hx
 | false=>
  rw [hk] at hx
  have hx : alook t [] = some x:=hx
  cases hx
theorem reg_run (hih : CallS w0 ih) {id : Nat} {ops : Array Oper} {drawn : Bool} {ρ : Pl} {e : En} {σ : Mem} {a : Act} {w : World} (hok : regOK N drawn ops = .text) (h : (regW m ops.toList ops.toList).f ih ⟨e.vs,[],[],[]⟩ σ (fun e σ=>.mk .nrm e σ) = res) (hS : St w0 N m ρ e σ a w) : (Code.region id ops drawn).wp Tryz.prog (Post w0 N m ρ res) a w:=by
 obtain ⟨ρ1,env,hu,hE,hM,hf⟩:=hS
 have hE':=en_nil hE
 have hQ : ∀ a' w',(∃ env',Fits N env' a' ∧ Then w0 m ρ1 [] [] (fun e σ=>.mk .nrm e σ) res env' w') → Post w0 N m ρ res .normal a' w':=fun a' w' hh=>by
  obtain ⟨env',h1,e',σ',ρ',h2,_,_,h3,h4,h5⟩:=hh
  exact ⟨.nrm,e',σ',h2.symm,trivial,ρ',env',hu.trans h3,h4,h5,h1⟩
 unfold regOK at hok
 split at hok
 ·cases hok
 ·rename_i hd
  obtain ⟨hs,hd⟩:=dstOK_spec hd
  split at hok
  ·refine wp_region_ss' (isI:=isI) (isS:=isS) (hs:=[]) (H:=Eng.noH) trivial hQ ?_
   have hx:=s_reg hr hih (full:=ops.toList) hE' hM h
   have:=ss_of_xs (N:=N) (full:=ops) hs hd ops.toList 0 env a w (by simp) trivial hf (by simpa using hx)
   simpa [List.range_eq_range'] using this
  ·split at hok
   ·rename_i hsq
    refine wp_region_ss (isI:=isI) (isS:=isS) (hs:=[]) (H:=Eng.noH) mixed trivial hsq hQ ?_
    have hx:=s_reg hr hih (full:=ops.toList) hE' (hM.ext (Fr.drew _ w)) h
    have:=ss_of_xs (N:=N) (full:=ops) hs hd ops.toList 0 env a w.drew (by simp) trivial hf (by simpa using hx)
    simpa [List.range_eq_range'] using this
   ·exact absurd (pick_cut hok (fun _ hh=>by cases hh) (fun hh=>by cases hh)) cutR_text
theorem reg_runH (hih : CallS w0 ih) {id : Nat} {l : List Oper} {drawn : Bool} {ρ : Pl} {e : En} {σ : Mem} {a : Act} {w : World} {k : Nat} (hok : regOK N drawn l.toArray = .held k) (h : (regH m (ldK l.toArray k) l (l.take k)).f ih ⟨e.vs,[],[],[]⟩ σ (finH m ih l (l.drop k) σ) = res) (hS : St w0 N m ρ e σ a w) : (Code.region id l.toArray drawn).wp Tryz.prog (Post w0 N m ρ res) a w:=by
 obtain ⟨ρ1,env,hu,hE,hM,hf⟩:=hS
 have hE':=en_nil hE
 have hM':=hM.ext (Fr.drew _ w)
 obtain ⟨ef,σf,hres,_,_,hho⟩:=mono_H hr hih hE' hM' h
 unfold regOK at hok
 split at hok
 ·cases hok
 ·rename_i hd
  split at hok
  ·cases hok
  ·split at hok
   ·cases hok
   ·have hsq:=cutR_inv (pick_cut hok (fun _ hh=>by cases hh) (fun hh=>by cases hh))
    refine wp_cut (K:=Then w0 m ρ1 ef.hs ef.ms fin0 res) k (ldK l.toArray k) (HH ρ1 ef.hs) hd hsq (hold_at hM' (Up.refl ρ1) List.mem_cons_self hho) hf (fun a' env' w' h1 hh=>?_) ?_
    ·obtain ⟨e',σ',ρ',h2,_,_,h3,h4,h5⟩:=hh
     exact ⟨.nrm,e',σ',h2.symm,trivial,ρ',env',hu.trans h3,h4,h5,h1⟩
    ·refine xs_monoH (fun env' w' hh=>?_) (s_regH hr hih hres hho hM' (full:=l) (l2:=l.drop k) (l:=l.take k) (Up.refl ρ1) hE' hM' h)
     obtain ⟨e1,σ1,ρ',k1,k2,k3,k4⟩:=hh
     have hx:=s_reg hr hih (full:=l) k3 k4 k1
     obtain ⟨_,_,e2,σ2,_,q1,q2,q3,_⟩:=xs_someL hx
     have q1 : Rs.mk .nrm e2 σ2 = res:=q1
     rw [hres] at q1
     injection q1 with _ q4 _
     refine xs_mono (fun env'' w'' hh=>?_) hx
     obtain ⟨e3,σ3,ρ3,r1,r2,r3,r4,r5,r6⟩:=hh
     exact ⟨e3,σ3,ρ3,r1,by rw [r2,← q2,q4],by rw [r3,← q3,q4],k2.trans r4,r5,r6⟩
theorem reg_runF (hih : ∀ F,CallS F ih) {id : Nat} {l : List Oper} {drawn : Bool} {ρ : Pl} {e : En} {σ : Mem} {a : Act} {w : World} {x : Fr0} (hok : regOK N drawn l.toArray = .free x) (h : (regF m x.hs l x.d x.pre).f ih ⟨e.vs,[],[],[]⟩ σ (fun e' σ'=>(orH m x.hs l x.f).f ih e' σ' fun e' σ'=>(regH m x.hs l x.post).f ih e' σ' (finH m ih l [] σ)) = res) (hS : St w0 N m ρ e σ a w) : (Code.region id l.toArray drawn).wp Tryz.prog (Post w0 N m ρ res) a w:=by
 obtain ⟨ρ1,env,hu,hE,hM,hf⟩:=hS
 have hE':=en_nil hE
 have hM':=hM.ext (Fr.drew _ w)
 obtain ⟨_,_,ea,σa,ρa,a1,_,a3,a4,_⟩:=dryF hr (hih w0) hE' hM' h
 obtain ⟨_,_,eb,σb,ρb,b1,_,b3,b4,_⟩:=dryH (l:=[x.f]) hr (hih w0) a3 a4 a1
 obtain ⟨_,_,ef,σf,ρf,c1,_,c3,c4,_⟩:=dryH hr (hih w0) b3 b4 b1
 obtain ⟨c5,hho⟩:=ckA_inv hr (show ckA σ ef.ms ef.hs ((regW m l []).f ih ef σf fin0) = res from c1)
 have hres : res = .mk .nrm ef σf:=c5.symm
 unfold regOK at hok
 split at hok
 ·cases hok
 ·rename_i hd
  split at hok
  ·cases hok
  ·split at hok
   ·cases hok
   ·split at hok
    ·split at hok
     ·rename_i hanc
      split at hok
      ·rename_i x' hfs
       injection hok with hok
       subst hok
       obtain ⟨f,hfr⟩:=findSome_mem hfs
       obtain ⟨d,op,ty,pos,af,pre,post,opre,opost,h1,h2,h3,h4,h5,h6,h7,h8⟩:=frOK_inv hfr
       subst h8
       have hlen : opre.length = (pre.map Prod.snd).length:=by
        have:=congrArg List.length (opsAt_map h5)
        simpa using this.symm
       refine wp_free (K:=fun env' w'=>∃ e' σ' ρ',res = .mk .nrm e' σ' ∧ Up ρ1 ρ' ∧ ER m ρ' e' env' ∧ MR w0 ρ' σ' w') (ldK l.toArray l.toArray.size) (HH ρ1 ef.hs) hd hanc (hold_at hM' (Up.refl ρ1) List.mem_cons_self hho) hf (fun a' env' w' q1 hh=>?_) (fun hR=>?_)
       ·obtain ⟨e',σ',ρ',g1,g2,g3,g4⟩:=hh
        exact ⟨.nrm,e',σ',g1,trivial,ρ',env',hu.trans g2,g3,g4,q1⟩
       ·refine free_run hR h1 (opsAt_map h6) h4 (opre:=opre.zip (pre.map Prod.snd)) (zip_snd hlen).symm (by rw [zip_fst hlen];exact opsAt_map h5) ?_
        refine run_xf hr hih (fun F=>Mono.fin hr (hih F) hres) hho hM' h2 h3 (fun env' w' e1 σ1 ρ' g1 g2 g3 g4=>?_) h7 (Up.refl ρ1) hE' hM' h
        obtain ⟨g5,_⟩:=ckA_inv hr (show ckA σ e1.ms e1.hs ((regW m l []).f ih e1 σ1 fin0) = res from g1)
        exact ⟨e1,σ1,ρ',g5.symm,g2,g3,g4⟩
      ·cases hok
     ·cases hok
    ·exact absurd hok cutR_free
end
theorem exM_other {x : Ex} {ex : Exit} (h : exM x ex) (hx : x ≠ .nrm) (Q : Exit → Act → World → Prop) (K : Act → World → Prop) (a : Act) (w : World) (hq : Q ex a w) : Exit.then K Q ex a w:=by
 cases ex with
 | normal=>cases x <;> first | exact absurd rfl hx | cases h
 | _=>exact hq
theorem cod_run {w0 : Fm} {N m : Nat} {ih : Cl} (hih : ∀ F,CallS F ih) : ∀ (d : Nat) (c : Code) (n : Nat) (e : En) (σ : Mem) (res : Rs) (ρ : Pl) (a : Act) (w : World),res ≠ .no → (codW N m d c).f ih n e σ = res → St w0 N m ρ e σ a w → c.wp Tryz.prog (Post w0 N m ρ res) a w
 | 0,c,n,e,σ,res,ρ,a,w,hr,h,hS=>absurd h.symm hr
 | d + 1,c,n,e,σ,res,ρ,a,w,hr,h,hS=>by
  have IH:=cod_run (w0:=w0) (N:=N) (m:=m) hih d
  cases c with
  | skip=>exact wp_skip ⟨.nrm,e,σ,h.symm,trivial,hS⟩
  | label l=>exact wp_label ⟨.nrm,e,σ,h.symm,trivial,hS⟩
  | exit id=>exact wp_exit ⟨.ext id,e,σ,h.symm,rfl,hS⟩
  | goto l=>exact wp_goto ⟨.gto l,e,σ,h.symm,rfl,hS⟩
  | ret=>exact wp_ret ⟨.ret,e,σ,h.symm,trivial,hS⟩
  | region id ops drawn=>
   have h' : (match regOK N drawn ops with
    | .text=>(⟨fun ih _ e σ=>(regW m ops.toList ops.toList).f ih ⟨e.vs,[],[],[]⟩ σ fun e σ=>.mk .nrm e σ⟩ : Wc)
    | .held k=>⟨fun ih _ e σ=>(regH m (ldK ops k) ops.toList (ops.toList.take k)).f ih ⟨e.vs,[],[],[]⟩ σ fun e' σ'=>ckA σ e'.ms e'.hs ((regW m ops.toList (ops.toList.drop k)).f ih e' σ' fun e σ=>.mk .nrm e σ)⟩
    | .free x=>⟨fun ih _ e σ=>(regF m x.hs ops.toList x.d x.pre).f ih ⟨e.vs,[],[],[]⟩ σ fun e' σ'=>(orH m x.hs ops.toList x.f).f ih e' σ' fun e' σ'=>(regH m x.hs ops.toList x.post).f ih e' σ' fun e' σ'=>ckA σ e'.ms e'.hs (.mk .nrm e' σ')⟩
    | .bad=>noC).f ih n e σ = res:=h
   split at h'
   ·rename_i hok
    exact reg_run hr (hih w0) hok h' hS
   ·rename_i hok
    exact reg_runH (l:=ops.toList) hr (hih w0) hok h' hS
   ·rename_i hok
    exact reg_runF (l:=ops.toList) hr hih hok h' hS
   ·exact absurd h'.symm hr
  | seq x y=>
   have h' : sqK ((codW N m d y).f ih n) ((codW N m d x).f ih n e σ) = res:=h
   obtain ⟨x1,e1,σ1,h1,h2⟩:=sqK_inv hr h'
   refine wp_seq (wp_mono (IH x n e σ _ ρ a w (by rw [h1];exact fun hh=>by cases hh) rfl hS) ?_)
   rintro ex a' w' ⟨x2,e2,σ2,k1,k2,k3⟩
   rw [h1] at k1
   injection k1 with q1 q2 q3
   subst q1;subst q2;subst q3
   rcases h2 with ⟨rfl,h2⟩ | ⟨hx,h2⟩
   ·cases ex with
    | normal=>exact IH y n e1 σ1 res ρ a' w' hr h2 k3
    | _=>cases k2
   ·exact exM_other k2 hx _ _ _ _ ⟨x1,e1,σ1,h2,k2,k3⟩
  | cond q x y=>
   have h' : (gtW m q).f e (fun q=>onB q ((codW N m d x).f ih n e σ) ((codW N m d y).f ih n e σ)) = res:=h
   have hS':=hS
   obtain ⟨ρ1,env,hu,hE,hM,hf⟩:=hS'
   obtain ⟨b,v,h1,h2,h3⟩:=gtW_inv hr hE h'
   rcases onB_inv hr h3 with ⟨rfl,h4⟩ | ⟨rfl,h4⟩
   ·have h2 : v = .bool true:=h2
    subst h2
    exact wp_cond_true (hf.eval h1) (IH x n e σ res ρ a w hr h4 hS)
   ·have h2 : v = .bool false:=h2
    subst h2
    exact wp_cond_false (hf.eval h1) (IH y n e σ res ρ a w hr h4 hS)
  | block id b=>
   have h' : blK id ((codW N m d b).f ih n e σ) = res:=h
   generalize hr0 : (codW N m d b).f ih n e σ = r0 at h'
   have hr0n : r0 ≠ .no:=fun hh=>by rw [hh] at h';exact hr h'.symm
   refine wp_block (wp_mono (IH b n e σ r0 ρ a w hr0n hr0 hS) ?_)
   rintro ex a' w' ⟨x2,e2,σ2,k1,k2,k3⟩
   subst k1
   cases x2 with
   | nrm=>
    cases ex with
    | normal=>exact ⟨.nrm,e2,σ2,h'.symm,trivial,k3⟩
    | _=>cases k2
   | ext j=>
    cases ex with
    | exit k=>
     have k2 : j = k:=k2
     subst k2
     have h'' : ifK (Nat.beq j id) (.mk .nrm e2 σ2) (.mk (.ext j) e2 σ2) = res:=h'
     rw [ifK_eq] at h''
     show (if j = id then _ else _)
     split at h''
     ·rename_i hj
      rw [if_pos (Nat.eq_of_beq_eq_true hj)]
      exact ⟨.nrm,e2,σ2,h''.symm,trivial,k3⟩
     ·rename_i hj
      rw [if_neg (fun hh=>hj (by rw [hh];exact Nat.beq_refl id))]
      exact ⟨.ext j,e2,σ2,h''.symm,rfl,k3⟩
    | _=>cases k2
   | gto j=>
    cases ex with
    | goto k=>exact ⟨.gto j,e2,σ2,h'.symm,k2,k3⟩
    | _=>cases k2
   | ret=>
    cases ex with
    | ret=>exact ⟨.ret,e2,σ2,h'.symm,trivial,k3⟩
    | _=>cases k2
   | val v=>cases k2
  | loop b=>
   have h' : lpK ((codW N m d b).f ih n) n e σ = res:=h
   refine wp_loop_ghost (fun k a w=>∃ e σ,lpK ((codW N m d b).f ih n) k e σ = res ∧ St w0 N m ρ e σ a w) n ⟨e,σ,h',hS⟩ ?_
   rintro k a1 w1 ⟨e1,σ1,h1,hS1⟩
   cases k with
   | zero=>exact absurd h1.symm hr
   | succ k=>
    have h1' : sqK (lpK ((codW N m d b).f ih n) k) ((codW N m d b).f ih n e1 σ1) = res:=h1
    obtain ⟨x2,e2,σ2,h2,h3⟩:=sqK_inv hr h1'
    refine wp_mono (IH b n e1 σ1 _ ρ a1 w1 (by rw [h2];exact fun hh=>by cases hh) rfl hS1) ?_
    rintro ex a' w' ⟨x3,e3,σ3,k1,k2,k3⟩
    rw [h2] at k1
    injection k1 with q1 q2 q3
    subst q1;subst q2;subst q3
    rcases h3 with ⟨rfl,h3⟩ | ⟨hx,h3⟩
    ·cases ex with
     | normal=>exact ⟨k,Nat.lt_succ_self k,e2,σ2,h3,k3⟩
     | _=>cases k2
    ·exact exM_other k2 hx _ _ _ _ ⟨x2,e2,σ2,h3,k2,k3⟩
  | scope b=>
   have h' : scpK (fun l=>(lbW (codW N m d) b l).f ih n) n ((codW N m d b).f ih n e σ) = res:=h
   have fin : ∀ (k : Nat) (x2 : Ex) (e2 : En) (σ2 : Mem),scpK (fun l=>(lbW (codW N m d) b l).f ih n) k (.mk x2 e2 σ2) = res → (∃ l k',x2 = .gto l ∧ k = k' + 1 ∧ scpK (fun l=>(lbW (codW N m d) b l).f ih n) k' ((lbW (codW N m d) b l).f ih n e2 σ2) = res) ∨ (res = .mk x2 e2 σ2 ∧ ∀ l,x2 ≠ .gto l):=fun k x2 e2 σ2 hh=>by
    cases k with
    | zero=>exact absurd hh.symm hr
    | succ k=>
     cases x2 with
     | gto l=>exact .inl ⟨l,k,rfl,rfl,hh⟩
     | nrm=>exact .inr ⟨hh.symm,fun l hl=>by cases hl⟩
     | ext j=>exact .inr ⟨hh.symm,fun l hl=>by cases hl⟩
     | ret=>exact .inr ⟨hh.symm,fun l hl=>by cases hl⟩
     | val v=>exact absurd hh.symm hr
   have hno : ∀ k,scpK (fun l=>(lbW (codW N m d) b l).f ih n) k .no ≠ res:=fun k hh=>by
    cases k <;> exact hr hh.symm
   have hlb : ∀ l k e2 σ2,scpK (fun l=>(lbW (codW N m d) b l).f ih n) k ((lbW (codW N m d) b l).f ih n e2 σ2) = res → ∃ rest,findLabel b l = some rest ∧ (lbW (codW N m d) b l).f ih n e2 σ2 = (codW N m d rest).f ih n e2 σ2 ∧ (codW N m d rest).f ih n e2 σ2 ≠ .no:=fun l k e2 σ2 hh=>by
    cases hf : findLabel b l with
    | none=>
     have : (lbW (codW N m d) b l).f ih n e2 σ2 = .no:=by
      unfold lbW
      rw [hf]
     rw [this] at hh
     exact absurd hh (hno k)
    | some rest=>
     have he : (lbW (codW N m d) b l).f ih n e2 σ2 = (codW N m d rest).f ih n e2 σ2:=by
      unfold lbW
      rw [hf]
     refine ⟨rest,rfl,he,fun h0=>?_⟩
     rw [he,h0] at hh
     exact hno k hh
   refine wp_scope_labels (fun l k a w=>∃ e2 σ2,scpK (fun l=>(lbW (codW N m d) b l).f ih n) k ((lbW (codW N m d) b l).f ih n e2 σ2) = res ∧ St w0 N m ρ e2 σ2 a w) ?_ ?_ ?_
   ·rintro l k a1 w1 ⟨e2,σ2,h1,_⟩
    obtain ⟨rest,hf,_⟩:=hlb l k e2 σ2 h1
    exact ⟨rest,hf⟩
   ·have hr0n : (codW N m d b).f ih n e σ ≠ .no:=fun hh=>by rw [hh] at h';exact hno n h'
    refine wp_mono (IH b n e σ _ ρ a w hr0n rfl hS) ?_
    rintro ex a' w' ⟨x2,e2,σ2,k1,k2,k3⟩
    rw [k1] at h'
    rcases fin n x2 e2 σ2 h' with ⟨l,k',rfl,_,h2⟩ | ⟨h2,h3⟩
    ·cases ex with
     | goto j=>
      have k2 : l = j:=k2
      subst k2
      exact ⟨k',e2,σ2,h2,k3⟩
     | _=>cases k2
    ·cases ex with
     | goto j=>cases x2 <;> first | exact absurd rfl (h3 _) | cases k2
     | _=>exact ⟨x2,e2,σ2,h2,k2,k3⟩
   ·rintro k l rest a1 w1 hf ⟨e1,σ1,h1,hS1⟩
    obtain ⟨rest',hf',he,hn0⟩:=hlb l k e1 σ1 h1
    rw [hf] at hf'
    obtain rfl:=Option.some.inj hf'
    rw [he] at h1
    refine wp_mono (IH rest n e1 σ1 _ ρ a1 w1 hn0 rfl hS1) ?_
    rintro ex a' w' ⟨x2,e2,σ2,k1,k2,k3⟩
    rw [k1] at h1
    rcases fin k x2 e2 σ2 h1 with ⟨l',k',rfl,hk,h2⟩ | ⟨h2,h3⟩
    ·cases ex with
     | goto j=>
      have k2 : l' = j:=k2
      subst k2
      exact ⟨k',by omega,e2,σ2,h2,k3⟩
     | _=>cases k2
    ·cases ex with
     | goto j=>cases x2 <;> first | exact absurd rfl (h3 _) | cases k2
     | _=>exact ⟨x2,e2,σ2,h2,k2,k3⟩
  | _=>exact absurd h.symm hr
end Rn
end Eng
end Go.Proofs.YtbpmlbjapapoaaaGreatDoor
namespace Go.Proofs.YtbpmlbjapapoaaaGreatDoor
open Go.RowKit
namespace Eng
namespace Rn
theorem look_arg : ∀ (l : List Value) (n t : Nat) (v : Value),n ≤ t → l[t - n]? = some v → look (argEnv n l) t = some v
 | [],n,t,v,_,h=>by cases h
 | x :: l,n,t,v,hn,h=>by
  show look ((n,x) :: argEnv (n + 1) l) t = some v
  rw [look_cons]
  by_cases ht : n = t
  ·subst ht
   rw [if_pos rfl]
   rw [Nat.sub_self] at h
   exact h
  ·rw [if_neg ht]
   refine look_arg l (n + 1) t v (by omega) ?_
   rw [show t - n = t - (n + 1) + 1 by omega] at h
   exact h
theorem ARs.get {ρ : Pl} {l : List AV} {vs : List Value} (h : ARs ρ l vs) : ∀ (i : Nat) x,l[i]? = some x → ∃ v,vs[i]? = some v ∧ AR ρ x v:=by
 induction h with
 | nil=>intro i x hx;cases hx
 | cons h1 _ ih=>
  intro i x hx
  cases i with
  | zero=>injection hx with hx;subst hx;exact ⟨_,rfl,h1⟩
  | succ i=>exact ih i x hx
theorem ARs.len {ρ : Pl} {l : List AV} {vs : List Value} (h : ARs ρ l vs) : vs.length = l.length:=by
 induction h with
 | nil=>rfl
 | cons _ _ ih=>simp [ih]
noncomputable def paL (m : Nat) (l : List AV) (k : Nat) (c : AEnv → Rs) : Rs:=List.rec (motive:=fun _=>Nat → (AEnv → Rs) → Rs) (fun _ c=>c []) (fun x _ ih k c=>fN (Nat.add k 1) fun k'=>ih k' fun r=>ifK (kept m k) (c ((k,x) :: r)) (c r)) l k c
theorem paL_inv {m : Nat} {res : Rs} : ∀ {l : List AV} {k : Nat} {c : AEnv → Rs},paL m l k c = res → ∃ env,c env = res ∧ ∀ t a,alook t env = some a → k ≤ t ∧ l[t - k]? = some a
 | [],k,c,h=>⟨[],h,fun t a ha=>by cases ha⟩
 | x :: l,k,c,h=>by
  have h' : fN (Nat.add k 1) (fun k'=>paL m l k' fun r=>ifK (kept m k) (c ((k,x) :: r)) (c r)) = res:=h
  rw [fN_eq] at h'
  obtain ⟨env,h1,h2⟩:=paL_inv h'
  rw [ifK_eq] at h1
  have hold : ∀ t a,alook t env = some a → k ≤ t ∧ (x :: l)[t - k]? = some a:=fun t a ha=>by
   obtain ⟨g1,g2⟩:=h2 t a ha
   have g1 : k + 1 ≤ t:=g1
   have g2 : l[t - (k + 1)]? = some a:=g2
   refine ⟨by omega,?_⟩
   rw [show t - k = t - (k + 1) + 1 by omega]
   exact g2
  split at h1
  ·refine ⟨_,h1,fun t a ha=>?_⟩
   simp only [alook] at ha
   split at ha
   ·rename_i hkt
    subst hkt
    obtain rfl:=Option.some.inj ha
    exact ⟨Nat.le_refl _,by simp⟩
   ·exact hold t a ha
  ·exact ⟨env,h1,hold⟩
theorem ld_one {t : TypeId} {p : Addr} {v : Value} {w : World} (ht : one t = true) (hc : w.cell? p = some v) : (loadVar t p).run Tryz.prog w = .ok v w:=by
 simp [loadVar,isAgg_one ht,load,Sem.run,hc]
section
variable {w0 : Fm} {m : Nat} {ih : Cl} {e : En} {σ : Mem} {res : Rs} {ρ : Pl} {env : Env} {w : World} (hr : res ≠ .no)
include hr
theorem reW_inv {N : Nat} {a : Act} (hE : ER m ρ e env) (hM : MR w0 ρ σ w) (hf : Fits N env a) {r : ResultVar} {k : AV → Rs} (h : (reW m r).f e σ k = res) : ∃ x v,AR ρ x v ∧ k x = res ∧ ((match r with
  | .tmp t=>pure (a.tmps.getD t undef)
  | .cell p t=>do loadVar t (← asAddr (a.tmps.getD p undef)) : Sem Value)).run Tryz.prog w = .ok v w:=by
 cases r with
 | tmp t=>
  obtain ⟨x,h1,h2⟩:=gtT_inv hr (show (gtT m t).f e k = res from h)
  obtain ⟨v,h3,h4⟩:=hE t x h1
  refine ⟨x,v,h4,h2,?_⟩
  have:=hf.2.2 t v h3
  simp [Array.getD_eq_getD_getElem?,this]
 | cell p t=>
  have hp : ∀ id o,∀ pv,look env p = some pv → SR ρ (.p id o) pv → ∃ q,ρ[id]? = some q ∧ (asAddr (a.tmps.getD p undef)).run Tryz.prog w = .ok ⟨q.b,o,none⟩ w:=fun id o pv h1 h2=>by
   obtain ⟨q,h3,rfl⟩:=h2
   refine ⟨q,h3,?_⟩
   have:=hf.2.2 p _ h1
   simp [Array.getD_eq_getD_getElem?,this,asAddr]
  unfold reW at h
  simp only at h
  split at h
  ·rename_i ho
   obtain ⟨x,h1,h2⟩:=gtT_inv hr h
   obtain ⟨pv,h3,h4⟩:=hE p x h1
   obtain ⟨id,o,e0,h5⟩:=onP_inv hr h2
   obtain ⟨ob,h6,h7⟩:=obK_inv hr h5
   obtain ⟨y,h8,h9⟩:=getK_inv hr h7
   subst e0
   obtain ⟨q,h10,h11⟩:=hp id o pv h3 h4
   obtain ⟨v,h12,h13,_⟩:=hM.cell (cget_iff.2 ⟨ob,h6,h8⟩) h10
   refine ⟨.v y,v,h13.2,h9,?_⟩
   show ((asAddr (a.tmps.getD p undef)) >>= fun q=>loadVar t q).run Tryz.prog w = _
   rw [Sem.run_bind,h11,Result.andThen_ok]
   exact ld_one ho h12
  ·split at h
   ·rename_i n hn
    rw [cN_eq] at h
    obtain ⟨x,h1,h2⟩:=gtT_inv hr h
    obtain ⟨pv,h3,h4⟩:=hE p x h1
    obtain ⟨id,o,e0,h5⟩:=onP_inv hr h2
    obtain ⟨ob,l,h6,h7,h8,h9⟩:=rdK_inv hr h5
    subst e0
    obtain ⟨q,h10,h11⟩:=hp id o pv h3 h4
    obtain ⟨vs,h12,h13⟩:=hM.cells h10 (l:=l) (o:=o) (fun i hi=>h8 i (by omega))
    refine ⟨.g l,.agg vs.toArray,⟨vs,h12,rfl⟩,h9,?_⟩
    have:=ld_agg (w:=w) (t:=t) (b:=q.b) (o:=o) (cs:=vs) (by rw [h12.len,h7];exact hn) (fun j u hu=>(h13 j u hu).1)
    show ((asAddr (a.tmps.getD p undef)) >>= fun q=>loadVar t q).run Tryz.prog w = _
    rw [Sem.run_bind,h11,Result.andThen_ok]
    exact this
   ·exact absurd h.symm hr
def resF (tmps : Array Value) : ResultVar → Sem Value:=fun
 | .tmp t=>pure (tmps.getD t undef)
 | .cell p t=>do loadVar t (← asAddr (tmps.getD p undef))
theorem resW_inv {N : Nat} {a : Act} (hE : ER m ρ e env) (hM : MR w0 ρ σ w) (hf : Fits N env a) : ∀ {l : List ResultVar} {k : List AV → Rs},(resW m l).f e σ k = res → ∃ al vs,ARs ρ al vs ∧ k al = res ∧ (l.mapM (resF a.tmps)).run Tryz.prog w = .ok vs w
 | [],k,h=>⟨[],[],.nil,h,by simp⟩
 | r :: l,k,h=>by
  obtain ⟨x,v,h1,h2,h3⟩:=reW_inv hr hE hM hf (show (reW m r).f e σ (fun v=>(resW m l).f e σ fun l=>k (v :: l)) = res from h)
  obtain ⟨al,vs,h4,h5,h6⟩:=resW_inv hE hM hf h2
  refine ⟨x :: al,v :: vs,.cons h1 h4,h5,?_⟩
  have h3' : (resF a.tmps r).run Tryz.prog w = .ok v w:=by
   cases r <;> exact h3
  simp [List.mapM_cons,h3',h6]
theorem tuK_inv : ∀ {l : List AV} {vs : List Value} {k : List TV → Rs},tuK l k = res → ARs ρ l vs → ∃ tl,TRs ρ tl vs ∧ k tl = res
 | [],vs,k,h,ha=>by
  cases ha
  exact ⟨[],.nil,h⟩
 | x :: l,vs,k,h,ha=>by
  cases ha with
  | cons h1 h2=>
   rcases onV_inv hr (show onV x (fun x=>tuK l fun l=>k (.v x :: l)) (fun g=>tuK l fun l=>k (.g g :: l)) = res from h) with ⟨y,rfl,h3⟩ | ⟨g,rfl,h3⟩
   ·obtain ⟨tl,h4,h5⟩:=tuK_inv h3 h2
    exact ⟨.v y :: tl,.cons h1 h4,h5⟩
   ·obtain ⟨tl,h4,h5⟩:=tuK_inv h3 h2
    exact ⟨.g g :: tl,.cons h1 h4,h5⟩
theorem toK_inv {l : List AV} {vs : List Value} (h : toK e σ l = res) (ha : ARs ρ l vs) : ∃ v,res = .mk (.val v) e σ ∧ AR ρ v (if h : vs.toArray.size = 1 then vs.toArray[0] else .tuple vs.toArray):=by
 cases ha with
 | nil=>exact ⟨.t [],h.symm,[],.nil,rfl⟩
 | cons h1 h2=>
  rename_i x v l vs
  cases h2 with
  | nil=>exact ⟨x,h.symm,h1⟩
  | cons h3 h4=>
   rename_i y v' l vs
   obtain ⟨tl,h5,h6⟩:=tuK_inv hr (show tuK (x :: y :: l) (fun l=>.mk (.val (.t l)) e σ) = res from h) (.cons h1 (.cons h3 h4))
   exact ⟨.t tl,h6.symm,_,h5,by simp⟩
theorem reK_inv {ws : Wrs} {r : Rs} (h : reK ws r = res) : ∃ x e σ,r = .mk x e σ ∧ (x = .nrm ∨ x = .ret) ∧ ws.f e σ (fun l=>toK e σ l) = res:=by
 cases r with
 | no=>exact absurd h.symm hr
 | mk x e σ=>
  cases x with
  | nrm=>exact ⟨_,_,_,rfl,.inl rfl,h⟩
  | ret=>exact ⟨_,_,_,rfl,.inr rfl,h⟩
  | _=>exact absurd h.symm hr
end
theorem nthF_mem : ∀ {l : List (Nat × Fe)} {f : Nat} {x : Fe},nthF l f = some x → (f,x) ∈ l
 | [],f,x,h=>by cases h
 | y :: l,f,x,h=>by
  have h' : (match Nat.beq y.1 f with
   | true=>some y.2
   | false=>nthF l f) = some x:=h
  split at h'
  ·rename_i hb
   obtain rfl:=Option.some.inj h'
   have:=Nat.eq_of_beq_eq_true hb
   subst this
   exact List.mem_cons_self
  ·exact List.mem_cons_of_mem _ (nthF_mem h')
def OrcS (f : Nat) (o : List AV → Mem → Rs) : Prop:=∀ (w0 : Fm) al σ v e' σ' (ρ : Pl) vs w,o al σ = .mk (.val v) e' σ' → ARs ρ al vs → MR w0 ρ σ w → Does Tryz.prog f vs.toArray w (fun val w'=>∃ ρ',Up ρ ρ' ∧ AR ρ' v val ∧ MR w0 ρ' σ' w')
def FeOK (f : Nat) : Fe → Prop
 | .code fn _=>Tryz.prog.funcs[f]? = some fn
 | .orc o=>OrcS f o
def TabOK (tab : List (Nat × Fe)) : Prop:=∀ x ∈ tab,FeOK x.1 x.2
theorem run_sound {tab : List (Nat × Fe)} (ht : TabOK tab) : ∀ n (w0 : Fm),CallS w0 (run tab n)
 | 0,w0=>fun f al σ v e' σ' ρ vs w h _ _=>by cases h
 | n + 1,w0=>fun f al σ v e' σ' ρ vs w h ha hM=>by
  have IH:=run_sound ht n
  have hr : (Rs.mk (.val v) e' σ') ≠ .no:=fun hh=>by cases hh
  have h' : (fnW (nthF tab f)).f (run tab n) al σ = .mk (.val v) e' σ':=h
  unfold fnW at h'
  split at h'
  ·rename_i fn m hnth
   have hf : Tryz.prog.funcs[f]? = some fn:=ht _ (nthF_mem hnth)
   split at h'
   ·rename_i c hc
    obtain ⟨hlen,h1⟩:=okK_inv h' hr
    have hlen:=Nat.le_of_ble_eq_true hlen
    have h1' : paL m al 0 (fun l=>reK (resW m fn.results.toList) ((codW fn.ntmps m 1000 c).f (run tab n) lF ⟨l,[],[],[]⟩ σ)) = .mk (.val v) e' σ':=h1
    obtain ⟨l,h2,h3⟩:=paL_inv h1'
    obtain ⟨x,e1,σ1,h4,h5,h6⟩:=reK_inv hr h2
    have hE : ER m ρ ⟨l,[],[],[]⟩ (argEnv 0 vs):=fun t a hta=>by
     unfold elk at hta
     cases hk : kept m t with
     | true=>
      rw [hk] at hta
      obtain ⟨_,g2⟩:=h3 t a hta
      obtain ⟨u1,g3,g4⟩:=ha.get _ a g2
      exact ⟨u1,look_arg vs 0 t u1 (Nat.zero_le _) g3,g4⟩
     | false=>
      rw [hk] at hta
      have hta : alook t [] = some a:=hta
      cases hta
    have hfit : Fits fn.ntmps (argEnv 0 vs) { tmps:=vs.toArray ++ Array.replicate (fn.ntmps - vs.toArray.size) undef,defers:=[] }:=
     fits_args (by simpa [ha.len] using hlen) fun t v hl=>by simpa using (look_argEnv vs 0 t v hl).2
    refine calls_of_wp hf hc (wp_mono (cod_run (N:=fn.ntmps) (m:=m) IH 1000 c lF ⟨l,[],[],[]⟩ σ _ ρ _ w (by rw [h4];exact fun hh=>by cases hh) rfl ⟨ρ,_,Up.refl ρ,hE,hM,hfit⟩) ?_)
    rintro ex a' w' ⟨x2,e2,σ2,k1,k2,ρ',env',k3,k4,k5,k6⟩
    rw [h4] at k1
    injection k1 with q1 q2 q3
    subst q1;subst q2;subst q3
    obtain ⟨al',vs',r1,r2,r3⟩:=resW_inv hr k4 k5 k6 h6
    obtain ⟨v',r4,r5⟩:=toK_inv hr r2 r1
    injection r4 with q1 q2 q3
    injection q1 with q1
    subst q1;subst q2;subst q3
    have hres : (results fn a'.tmps).run Tryz.prog w' = .ok (if h : vs'.toArray.size = 1 then vs'.toArray[0] else .tuple vs'.toArray) w':=by
     have e1 : results fn a'.tmps = (do
      let vs ← fn.results.mapM (resF a'.tmps)
      pure (if h : vs.size = 1 then vs[0] else .tuple vs)):=rfl
     rw [e1,Array.mapM_eq_mapM_toList]
     simp [r3]
    have fin : a'.defers = [] ∧ ∃ vv,(results fn a'.tmps).run Tryz.prog w' = .ok vv w' ∧ Ret (fun val w'=>∃ ρ',Up ρ ρ' ∧ AR ρ' v val ∧ MR w0 ρ' σ' w') (.returned vv) w':=⟨k6.1,_,hres,_,rfl,ρ',k3,r5,k5⟩
    rcases h5 with rfl | rfl
    ·cases ex with
     | normal=>exact fin
     | _=>cases k2
    ·cases ex with
     | ret=>exact fin
     | _=>cases k2
   ·cases h'
  ·rename_i o hnth
   have ho : OrcS f o:=ht _ (nthF_mem hnth)
   exact ho w0 al σ v e' σ' ρ vs w h' ha hM
  ·cases h'
theorem told_run {tab : List (Nat × Fe)} (ht : TabOK tab) {n f : Nat} (h : ok (run tab n f [] ⟨0,.nil,[]⟩) = true) (w : World) : Does Tryz.prog f #[] w (fun v w'=>v = .bool true ∧ Ext w w'):=by
 generalize hres : run tab n f [] ⟨0,.nil,[]⟩ = r at h
 cases r with
 | no=>cases h
 | mk x e σ=>
  cases x with
  | val v=>
   cases v with
   | v v=>
    cases v with
    | b q=>
     have h : q = true:=h
     subst h
     have hM : MR ⟨noneB,w⟩ [] ⟨0,.nil,[]⟩ w:={
      len:=rfl
      blk:=fun id ob h1 _=>by
       have : oget ⟨0,.nil,[]⟩ id = none:=tget_nil _ _
       rw [this] at h1;cases h1
      old:=Fr.refl _ _
      far:=fun id o p _ hp=>by cases hp
      pre:=fun id ob h1=>by
       have : oget ⟨0,.nil,[]⟩ id = none:=tget_nil _ _
       rw [this] at h1;cases h1
      apart:=fun id id' o o' p p' _ _ _ hp=>by cases hp
      mps:=Mps.nil _ _ _ }
     have:=run_sound ht n ⟨noneB,w⟩ f [] ⟨0,.nil,[]⟩ _ e σ [] [] w hres .nil hM
     refine Does.mono this fun v w' hh=>?_
     obtain ⟨ρ',_,h2,h3⟩:=hh
     exact ⟨h2,h3.old⟩
    | _=>cases h
   | _=>cases h
  | _=>cases h
end Rn
end Eng
end Go.Proofs.YtbpmlbjapapoaaaGreatDoor
namespace Go.Proofs.YtbpmlbjapapoaaaGreatDoor.Eng
open Go.RowKit
section
def hmayGo : List Int → Int → Int → Bool
 | [],codes,sum=>if codes = 1 then decide (sum = 2048) else decide (codes = 0) || decide (sum = 4096)
 | n :: r,codes,sum=>if n < 0 ∨ 12 < n then false else if 0 < n then hmayGo r (codes + 1) (sum + p2 (12 - n)) else hmayGo r codes sum
def mayB (zs : List Int) : Bool:=decide (zs.length ≤ 400) && hmayGo zs 0 0
structure MayI (zs : List Int) (w0 : World) (x : Nat × Int × Int) (w : World) : Prop where
 w : w = w0
 len : zs.length ≤ 400
 k : x.1 ≤ zs.length
 c0 : 0 ≤ x.2.1
 c1 : x.2.1 ≤ x.1
 s0 : 0 ≤ x.2.2
 s1 : x.2.2 ≤ 4096 * x.1
 go : hmayGo (zs.drop x.1) x.2.1 x.2.2 = hmayGo zs 0 0
theorem hmayGo_nil (c s : Int) : hmayGo [] c s = if c = 1 then decide (s = 2048) else decide (c = 0) || decide (s = 4096):=rfl
theorem hmayGo_cons (n : Int) (r : List Int) (c s : Int) : hmayGo (n :: r) c s = if n < 0 ∨ 12 < n then false else if 0 < n then hmayGo r (c + 1) (s + p2 (12 - n)) else hmayGo r c s:=rfl
theorem hmay_does (w : World) (v : Value) (zs : List Int) (hv : IRow w v zs) : Does Tryz.prog 199 #[v] w fun r w'=>r = .bool (mayB zs) ∧ w = w':=by
 obtain ⟨A,c,rfl,hc,hcm,hA⟩:=hv
 unfold maxLen at hcm
 refine does1 Tryz.func199 rfl (by kernel_rfl) ?_
 refine wk ?_
 refine tscope1 (α:=Nat × Int × Int) 0 rfl (fun x=>[(0,.slice A zs.length c),(3,.int .i64 (x.1 : Int)),(4,.int .i64 x.2.1),(5,.int .i64 x.2.2)])
  (MayI zs w) (fun x=>zs.length - x.1) ?_ ?_
 ·rintro ⟨k,cd,sm⟩ w' ⟨rfl,h4,hk,hc0,hc1,hs0,hs1,hgo⟩
  dsimp only at h4 hk hc0 hc1 hs0 hs1 hgo ⊢
  by_cases hlt : k < zs.length
  ·obtain ⟨b,o,z,rfl,hb,hz,hcell,hdrop⟩:=at_row hA hlt
   rw [hdrop,hmayGo_cons] at hgo
   by_cases h0 : z < 0 ∨ 12 < z
   ·rw [if_pos h0] at hgo
    repeat' (first | refine wk1 ?_ | refine xcs rfl rfl rfl (fun hc=>?_) (fun hc=>?_) | fail)
    all_goals first | omega | exact tret1 rfl rfl ⟨by simp [mayB,← hgo],rfl⟩
   ·rw [if_neg h0] at hgo
    by_cases h1 : 0 < z
    ·rw [if_pos h1] at hgo
     have hp:=p2_pos (12 - z)
     have hp' : p2 (12 - z) ≤ 2 ^ 12:=p2_le (by omega)
     refine wk ?_
     refine xshl (r:=p2 (12 - z)) rfl rfl (by omega) (by simp [IntKind.bits];omega) (by rw [Int.one_mul];exact IntWalk.i64_in _ (by unfold p2 at *;omega)) ?_
     refine wk ?_
     exact tgoto rfl ⟨_,by dsimp only;omega,rfl,(k + 1,cd + 1,sm + p2 (12 - z)),sub ⟨rfl,rfl,rfl,rfl⟩,⟨rfl,h4,by dsimp only;omega,by dsimp only;omega,by dsimp only;omega,by dsimp only;omega,by dsimp only;omega,hgo⟩,rfl⟩
    ·rw [if_neg h1] at hgo
     refine wk ?_
     exact tgoto rfl ⟨_,by dsimp only;omega,rfl,(k + 1,cd,sm),sub ⟨rfl,rfl,rfl,rfl⟩,⟨rfl,h4,by dsimp only;omega,by dsimp only;omega,by dsimp only;omega,by dsimp only;omega,by dsimp only;omega,hgo⟩,rfl⟩
  ·rw [List.drop_eq_nil_of_le (by omega),hmayGo_nil] at hgo
   have hm : mayB zs = if cd = 1 then decide (sm = 2048) else decide (cd = 0) || decide (sm = 4096):=by rw [hgo];simp [mayB,h4]
   repeat' (first | refine wk1 ?_ | refine xcs rfl rfl rfl (fun hc=>?_) (fun hc=>?_) | fail)
   all_goals exact tret1 rfl rfl ⟨by rw [hm];simp [*],rfl⟩
 ·intro H
  repeat' (first | refine wk1 ?_ | refine xcs rfl rfl rfl (fun hc=>?_) (fun hc=>?_) | fail)
  ·exact tret1 rfl rfl ⟨by simp [mayB];omega,rfl⟩
  ·refine tlabel ?_
   exact tweak (H (0,0,0) w ⟨rfl,by omega,by simp,by simp,by simp,by simp,by simp,by simp⟩) (sub ⟨rfl,rfl,rfl,rfl⟩)
end
section
end
section
end
section
def minL (zs : List Int) : Int:=zs.tail.foldl min (zs.headD 0)
def maxL (zs : List Int) : Int:=zs.tail.foldl max (zs.headD 0)
structure FoldI (f : Int → Int → Int) (zs : List Int) (w0 : World) (k : Nat) (w : World) : Prop where
 w : w = w0
 k1 : 1 ≤ k
 le : k ≤ zs.length
theorem foldl_take_succ (f : Int → Int → Int) (zs : List Int) (a : Int) (k : Nat) (z : Int) (hk : 1 ≤ k) (hz : zs[k]? = some z) : f ((zs.tail.take (k - 1)).foldl f a) z = (zs.tail.take k).foldl f a:=by
 obtain ⟨j,rfl⟩ : ∃ j,k = j + 1:=⟨k - 1,by omega⟩
 rw [Nat.add_sub_cancel]
 cases zs with
 | nil=>simp at hz
 | cons y r=>
  simp only [List.tail_cons,List.getElem?_cons_succ] at hz ⊢
  rw [List.take_add_one,hz];simp
theorem min_does (w : World) (v : Value) (zs : List Int) (hv : IRow w v zs) (hn : 0 < zs.length) (hl : zs.length ≤ 2 ^ 40) :
  Does Tryz.prog 195 #[v] w fun r w'=>r = .int .i64 (minL zs) ∧ w = w':=by
 obtain ⟨A,c,rfl,hc,hcm,hA⟩:=hv
 obtain ⟨b,o,z,rfl,hb,hz,hcell,_⟩:=at_row hA hn
 have hh : zs.headD 0 = z:=by cases zs with
  | nil=>simp at hz
  | cons y r=>simpa using hz
 rw [Nat.add_zero] at hcell
 refine does1 Tryz.func195 rfl (by kernel_rfl) ?_
 refine wk ?_
 refine tloop (α:=Nat) (fun k=>[(0,.slice (some ⟨b,o,none⟩) zs.length c),(3,.int .i64 ((zs.tail.take (k - 1)).foldl min z)),(4,.int .i64 (k : Int))]) (FoldI min zs w) (fun k=>zs.length - k) 1 (sub ⟨rfl,by simp [look],rfl⟩) ⟨rfl,by omega,by omega⟩ ?_
 rintro k w' ⟨rfl,h1,hle⟩
 by_cases hlt : k < zs.length
 ·obtain ⟨b',o',z',e,hb',hz',hcell',_⟩:=at_row hA hlt
  injection e with e;injection e with e1 e2;subst e1;subst e2
  refine wk ?_
  refine xmin rfl rfl ?_
  rw [foldl_take_succ min zs z k z' h1 hz']
  refine wk ?_
  exact tfin ⟨k + 1,sub ⟨rfl,rfl,rfl⟩,⟨rfl,by omega,by omega⟩,by dsimp only;omega⟩
 ·obtain rfl : k = zs.length:=by omega
  refine wk ?_
  refine tret1 rfl rfl ⟨?_,rfl⟩
  unfold minL
  rw [hh,List.take_of_length_le (by simp)]
theorem max_does (w : World) (v : Value) (zs : List Int) (hv : IRow w v zs) (hn : 0 < zs.length) (hl : zs.length ≤ 2 ^ 40) :
  Does Tryz.prog 196 #[v] w fun r w'=>r = .int .i64 (maxL zs) ∧ w = w':=by
 obtain ⟨A,c,rfl,hc,hcm,hA⟩:=hv
 obtain ⟨b,o,z,rfl,hb,hz,hcell,_⟩:=at_row hA hn
 have hh : zs.headD 0 = z:=by cases zs with
  | nil=>simp at hz
  | cons y r=>simpa using hz
 rw [Nat.add_zero] at hcell
 refine does1 Tryz.func196 rfl (by kernel_rfl) ?_
 refine wk ?_
 refine tloop (α:=Nat) (fun k=>[(0,.slice (some ⟨b,o,none⟩) zs.length c),(3,.int .i64 ((zs.tail.take (k - 1)).foldl max z)),(4,.int .i64 (k : Int))]) (FoldI max zs w) (fun k=>zs.length - k) 1 (sub ⟨rfl,by simp [look],rfl⟩) ⟨rfl,by omega,by omega⟩ ?_
 rintro k w' ⟨rfl,h1,hle⟩
 by_cases hlt : k < zs.length
 ·obtain ⟨b',o',z',e,hb',hz',hcell',_⟩:=at_row hA hlt
  injection e with e;injection e with e1 e2;subst e1;subst e2
  refine wk ?_
  refine xmax rfl rfl ?_
  rw [foldl_take_succ max zs z k z' h1 hz']
  refine wk ?_
  exact tfin ⟨k + 1,sub ⟨rfl,rfl,rfl⟩,⟨rfl,by omega,by omega⟩,by dsimp only;omega⟩
 ·obtain rfl : k = zs.length:=by omega
  refine wk ?_
  refine tret1 rfl rfl ⟨?_,rfl⟩
  unfold maxL
  rw [hh,List.take_of_length_le (by simp)]
end
section
def manyB (zs : List Int) (l : Nat) : Nat:=if l = 0 then 0 else zs.count (l : Int)
def firstB (zs : List Int) : Nat → Nat
 | 0=>0
 | l + 1=>(firstB zs l + manyB zs l) * 2
def tabL (f m : Nat → Nat) : List Value:=(List.range 13).map (fun l=>Value.int .u64 (f l : Int)) ++ (List.range 13).map (fun l=>Value.int .u64 (m l : Int))
def tabA (f m : Nat → Nat) : Array Value:=(tabL f m).toArray
def updF (f : Nat → Nat) (n v : Nat) : Nat → Nat:=fun l=>if l = n then v else f l
theorem size_tabA (f m : Nat → Nat) : (tabA f m).size = 26:=by simp [tabA,tabL]
theorem tabA_f (f m : Nat → Nat) (l : Nat) (h : l < 13) : (tabA f m)[l]? = some (.int .u64 (f l : Int)):=by
 simp only [tabA,tabL,List.getElem?_toArray]
 rw [List.getElem?_append_left (by simp;omega)];simp [h]
theorem tabA_m (f m : Nat → Nat) (l : Nat) (h : l < 13) : (tabA f m)[13 + l]? = some (.int .u64 (m l : Int)):=by
 simp only [tabA,tabL,List.getElem?_toArray]
 rw [List.getElem?_append_right (by simp)];simp [h]
theorem tabA_set_f (f m : Nat → Nat) (n v : Nat) (h : n < 13) : (tabA f m).setIfInBounds n (.int .u64 (v : Int)) = tabA (updF f n v) m:=by
 apply Array.ext'
 apply List.ext_getElem?
 intro i
 rw [Array.toList_setIfInBounds,List.getElem?_set]
 have e1 : (tabA f m).toList[i]? = (tabA f m)[i]?:=by simp
 have e2 : (tabA (updF f n v) m).toList[i]? = (tabA (updF f n v) m)[i]?:=by simp
 rw [e1,e2]
 by_cases hi : n = i
 ·subst hi;rw [if_pos rfl,if_pos (by simp [tabA,tabL];omega),tabA_f _ _ _ h];simp [updF]
 ·rw [if_neg hi]
  by_cases h13 : i < 13
  ·rw [tabA_f _ _ _ h13,tabA_f _ _ _ h13];simp [updF,Ne.symm hi]
  ·by_cases h26 : i < 26
   ·obtain ⟨q,rfl⟩ : ∃ q,i = 13 + q:=⟨i - 13,by omega⟩
    rw [tabA_m _ _ _ (by omega),tabA_m _ _ _ (by omega)]
   ·rw [Array.getElem?_eq_none (by rw [size_tabA];omega),Array.getElem?_eq_none (by rw [size_tabA];omega)]
theorem tabA_set_m (f m : Nat → Nat) (n v : Nat) (h : n < 13) : (tabA f m).setIfInBounds (13 + n) (.int .u64 (v : Int)) = tabA f (updF m n v):=by
 apply Array.ext'
 apply List.ext_getElem?
 intro i
 rw [Array.toList_setIfInBounds,List.getElem?_set]
 have e1 : (tabA f m).toList[i]? = (tabA f m)[i]?:=by simp
 have e2 : (tabA f (updF m n v)).toList[i]? = (tabA f (updF m n v))[i]?:=by simp
 rw [e1,e2]
 by_cases hi : 13 + n = i
 ·subst hi;rw [if_pos rfl,if_pos (by simp [tabA,tabL];omega),tabA_m _ _ _ h];simp [updF]
 ·rw [if_neg hi]
  by_cases h13 : i < 13
  ·rw [tabA_f _ _ _ h13,tabA_f _ _ _ h13]
  ·by_cases h26 : i < 26
   ·obtain ⟨q,rfl⟩ : ∃ q,i = 13 + q:=⟨i - 13,by omega⟩
    rw [tabA_m _ _ _ (by omega),tabA_m _ _ _ (by omega)];simp [updF,show ¬ q = n by omega]
   ·rw [Array.getElem?_eq_none (by rw [size_tabA];omega),Array.getElem?_eq_none (by rw [size_tabA];omega)]
theorem tabA_congr {f f' m m' : Nat → Nat} (hf : ∀ l,l < 13 → f l = f' l) (hm : ∀ l,l < 13 → m l = m' l) : tabA f m = tabA f' m':=by
 unfold tabA tabL
 congr 2
 ·exact List.map_congr_left fun l hl=>by rw [hf l (by simpa using hl)]
 ·exact List.map_congr_left fun l hl=>by rw [hm l (by simpa using hl)]
theorem tabA_one (f m : Nat → Nat) : (tabA f m).all (·.oneCell') = true:=by
 rw [Array.all_eq_true_iff_forall_mem]
 intro v hv
 simp only [tabA,tabL,List.mem_toArray,List.mem_append,List.mem_map] at hv
 rcases hv with ⟨l,_,rfl⟩ | ⟨l,_,rfl⟩ <;> rfl
theorem firstB_le (zs : List Int) (hl : zs.length ≤ 400) : ∀ l,firstB zs l + manyB zs l ≤ 400 * 2 ^ (l + 1) - 400:=by
 have hm : ∀ l,manyB zs l ≤ 400:=fun l=>by
  unfold manyB
  split
  ·omega
  ·exact Nat.le_trans List.count_le_length hl
 intro l
 induction l with
 | zero=>have:=hm 0;simp [firstB];omega
 | succ l ih=>
  have:=hm (l + 1)
  rw [firstB,Nat.pow_succ]
  have hp : 1 ≤ 2 ^ (l + 1):=Nat.two_pow_pos _
  omega
theorem firstB_lt (zs : List Int) (hl : zs.length ≤ 400) (l : Nat) (h : l ≤ 12) : firstB zs l + manyB zs l < 4000000:=by
 have h1:=firstB_le zs hl l
 have h2 : 2 ^ (l + 1) ≤ 2 ^ 13:=Nat.pow_le_pow_right (by decide) (by omega)
 omega
def Lens (zs : List Int) : Prop:=∀ z ∈ zs,0 ≤ z ∧ z ≤ 12
structure CntI (zs : List Int) (g g2 : Nat) (w0 : World) (k : Nat) (w : World) : Prop where
 le : k ≤ zs.length
 B : Blk w g 261 (tabA (fun _=>0) (fun l=>(zs.take k).count (l : Int)))
 B2 : Blk w g2 261 (tabA (fun _=>0) (fun _=>0))
 ext : Ext w0 w
structure CntJ (zs : List Int) (g g2 : Nat) (w0 : World) (n : Nat) (w : World) : Prop where
 n1 : 1 ≤ n
 le : n ≤ 13
 B : Blk w g 261 (tabA (fun l=>if l < n then firstB zs l else 0) (manyB zs))
 B2 : Blk w g2 261 (tabA (fun _=>0) (fun _=>0))
 ext : Ext w0 w
theorem hcount_does (w : World) (v : Value) (zs : List Int) (hv : IRow w v zs) (hz : Lens zs) (hl : zs.length ≤ 400) :
  Does Tryz.prog 218 #[v] w fun r w'=>r = .agg (tabA (firstB zs) (manyB zs)) ∧ Ext w w':=by
 have hrow:=hv
 obtain ⟨A,c,rfl,hc,hcm,hA⟩:=hv
 refine does1 Tryz.func218 rfl (by kernel_rfl) ?_
 refine wk ?_
 refine xalloc (z:=.agg (tabA (fun _=>0) (fun _=>0))) (by kernel_rfl) (fun w1 hB1 hE1 hs1=>?_)
 refine wk ?_
 refine tscope1 (α:=Nat) 0 rfl (fun n=>[(2,.pointer (some ⟨w.heap.size,0,none⟩)),(3,.pointer (some ⟨w.heap.size + 1,0,none⟩)),(6,.int .i64 (n : Int))]) (CntJ zs (w.heap.size + 1) w.heap.size w) (fun n=>13 - n) ?_ ?_
 ·rintro n w2 ⟨hn1,hn,hB,hB2,hE⟩
  by_cases hlt : n ≤ 12
  ·obtain ⟨m,rfl⟩ : ∃ m,n = m + 1:=⟨n - 1,by omega⟩
   have hf:=firstB_lt zs hl m (by omega)
   have hc1 : w2.cell? ⟨w.heap.size + 1,m,none⟩ = some (.int .u64 (firstB zs m : Int)):=by rw [hB.cell,tabA_f _ _ _ (by omega)];simp
   have hc2 : w2.cell? ⟨w.heap.size + 1,13 + m,none⟩ = some (.int .u64 (manyB zs m : Int)):=by rw [hB.cell,tabA_m _ _ _ (by omega)]
   refine wk ?_
   refine xiq m m rfl rfl rfl rfl (by omega) (by omega) (by omega) ?_
   refine wk ?_
   refine xiq m (13 + m) rfl rfl rfl rfl (by omega) (by omega) (by omega) ?_
   refine wk ?_
   refine xshl (r:=(firstB zs (m + 1) : Int)) rfl rfl (by decide) (by decide) (by
    have e : ((firstB zs m : Int) + (manyB zs m : Int)) * 2 ^ (1 : Int).toNat = (firstB zs (m + 1) : Int):=by
     rw [firstB];show ((firstB zs m : Int) + (manyB zs m : Int)) * 2 = _;omega
    rw [e]
    exact u64_in _ (by omega) (by rw [firstB];omega)) ?_
   refine wk ?_
   refine xiq (m + 1) (m + 1) rfl rfl rfl rfl (by omega) (by omega) (by omega) ?_
   refine wk ?_
   refine xstb hB rfl rfl rfl rfl (by rw [size_tabA];simp;omega) (fun w3 hB3 hF3=>?_)
   refine wk ?_
   have hF : Fr (· = w.heap.size + 1) w2 w3:=(Fr.drew _ _).t hF3
   refine tgoto rfl ⟨_,(by show 13 - (m + 1 + 1) < 13 - (m + 1);omega),rfl,m + 1 + 1,sub ⟨rfl,rfl,rfl⟩,⟨by omega,by omega,?_,hB2.fr hF (by show ¬ w.heap.size = _;omega),hE.te hF fun j hj e=>by omega⟩,rfl⟩
   rw [tabA_set_f _ _ _ _ (by omega)] at hB3
   rw [tabA_congr (f':=updF (fun l=>if l < m + 1 then firstB zs l else 0) (m + 1) (firstB zs (m + 1))) (m':=manyB zs) (fun l hl=>?_) (fun l hl=>rfl)]
   ·exact hB3
   ·unfold updF
    by_cases h1 : l = m + 1
    ·subst h1;simp
    ·rw [if_neg h1]
     dsimp only
     by_cases h2 : l < m + 1
     ·rw [if_pos h2,if_pos (by omega)]
     ·rw [if_neg h2,if_neg (by omega)]
  ·obtain rfl : n = 13:=by omega
   refine wk ?_
   refine xlda hB rfl (by rw [size_tabA];rfl) ?_
   refine xsta hB2 rfl rfl (by rw [size_tabA];rfl) (by rw [size_tabA,size_tabA]) (tabA_one _ _) (fun w3 hB3 hF3=>?_)
   refine wk ?_
   have e : tabA (fun l=>if l < 13 then firstB zs l else 0) (manyB zs) = tabA (firstB zs) (manyB zs):=tabA_congr (fun l hl=>by simp [hl]) (fun l hl=>rfl)
   rw [e] at hB3
   refine tretc rfl rfl hB3 (by rw [size_tabA];rfl) ⟨rfl,hE.te hF3 fun j hj e=>by omega⟩
 ·intro H
  refine wk ?_
  refine xalloc (z:=.agg (tabA (fun _=>0) (fun _=>0))) (by kernel_rfl) (fun w2 hB2 hE2 hs2=>?_)
  rw [hs1] at hB2 ⊢
  refine wk ?_
  refine tloop (α:=Nat) (fun k=>[(2,.pointer (some ⟨w.heap.size,0,none⟩)),(3,.pointer (some ⟨w.heap.size + 1,0,none⟩)),(7,.slice A zs.length c),(8,.int .i64 (zs.length : Int)),(9,.int .i64 (k : Int))]) (CntI zs (w.heap.size + 1) w.heap.size w) (fun k=>zs.length - k) 0 (sub ⟨rfl,rfl,rfl,rfl,rfl⟩) ⟨by omega,hB2,hB1.ext hE2,hE1.te hE2 fun _ _ hh=>hh⟩ ?_
  rintro k w3 ⟨hk,hB3,hB32,hE3⟩
  by_cases hlt : k < zs.length
  ·obtain ⟨b,o,z,rfl,hb,hzk,hcell,hdrop⟩:=at_row hA hlt
   have hzz:=hz z (List.mem_of_getElem? hzk)
   obtain ⟨q,rfl⟩:=Int.eq_ofNat_of_zero_le hzz.1
   have hcell3:=hE3.cell hcell
   have hcq : w3.cell? ⟨w.heap.size + 1,13 + q,none⟩ = some (.int .u64 ((zs.take k).count (q : Int) : Int)):=by rw [hB3.cell,tabA_m _ _ _ (by omega)]
   have hcnt : (zs.take k).count (q : Int) ≤ 400:=by
    have:=List.count_le_length (a:=(q : Int)) (l:=zs.take k)
    rw [List.length_take] at this;omega
   refine wk ?_
   refine xiq q (13 + q) rfl rfl rfl rfl (by omega) (by omega) (by omega) ?_
   refine wk ?_
   refine wk ?_
   refine xiq q (13 + q) rfl rfl rfl rfl (by omega) (by omega) (by omega) ?_
   refine xstb hB3 rfl rfl rfl rfl (by rw [size_tabA];simp;omega) (fun w4 hB4 hF4=>?_)
   refine wk ?_
   refine tfin ⟨k + 1,sub ⟨rfl,rfl,rfl,rfl,rfl⟩,⟨by omega,?_,hB32.fr hF4 (by show ¬ w.heap.size = _;omega),hE3.te hF4 fun j hj e=>by omega⟩,by dsimp only;omega⟩
   have e : ((List.count (q : Int) (List.take k zs) : Int) + 1) = ((List.count (q : Int) (List.take k zs) + 1 : Nat) : Int):=by omega
   rw [e,tabA_set_m _ _ _ _ (by omega)] at hB4
   rw [tabA_congr (f':=fun _=>0) (m':=updF (fun l=>(zs.take k).count (l : Int)) q ((zs.take k).count (q : Int) + 1)) (fun l hl=>rfl) (fun l hl=>?_)]
   ·exact hB4
   ·rw [List.take_add_one,hzk]
    unfold updF
    simp only [Option.toList_some,List.count_append,List.count_singleton]
    by_cases h1 : l = q
    ·subst h1;simp
    ·have : ¬ (q : Int) = (l : Int):=by omega
     simp [h1,this]
  ·obtain rfl : k = zs.length:=by omega
   refine wk ?_
   refine xiq 0 13 rfl rfl rfl rfl (by omega) (by omega) (by omega) ?_
   refine xstb hB3 rfl rfl rfl rfl (by rw [size_tabA];rfl) (fun w4 hB4 hF4=>?_)
   refine wk ?_
   refine tlabel ?_
   refine tweak (H 1 w4 ⟨by omega,by omega,?_,hB32.fr hF4 (by show ¬ w.heap.size = _;omega),hE3.te hF4 fun j hj e=>by omega⟩) (sub ⟨rfl,rfl,rfl⟩)
   have hB4' : Blk w4 (w.heap.size + 1) 261 ((tabA (fun _=>0) (fun l=>(zs.take zs.length).count (l : Int))).setIfInBounds (13 + 0) (.int .u64 ((0 : Nat) : Int))):=hB4
   rw [tabA_set_m _ _ _ _ (by omega)] at hB4'
   rw [tabA_congr (f':=fun _=>0) (m':=updF (fun l=>(zs.take zs.length).count (l : Int)) 0 0) (fun l hl=>?_) (fun l hl=>?_)]
   ·exact hB4'
   ·by_cases h1 : l < 1
    ·obtain rfl : l = 0:=by omega
     rfl
    ·rw [if_neg h1]
   ·unfold updF manyB
    rw [List.take_length]
def codeB (zs : List Int) (s : Nat) : Nat:=match zs[s]? with
 | some z=>if 0 < z then firstB zs z.toNat + (zs.take s).count z else 0
 | none=>0
def codesB (zs : List Int) : List Int:=(List.range zs.length).map fun s=>(codeB zs s : Int)
def UB (w : World) (b : Nat) (l : List Int) : Prop:=Blk w b 40 (l.map (Value.int .u64)).toArray
theorem sl_uints : SlT 242 40 (.int .u64 0) 1 8:=slT Tryz.underlying242 (by kernel_rfl)
def codesTo (zs : List Int) (k : Nat) : List Int:=(List.range zs.length).map fun s=>if s < k then (codeB zs s : Int) else 0
structure CodI (zs : List Int) (g b : Nat) (w0 : World) (k : Nat) (w : World) : Prop where
 le : k ≤ zs.length
 B : Blk w g 261 (tabA (fun l=>firstB zs l + if l = 0 then 0 else (zs.take k).count (l : Int)) (manyB zs))
 U : UB w b (codesTo zs k)
 ext : Ext w0 w
theorem may_len {zs : List Int} (h : mayB zs = true) : zs.length ≤ 400:=by
 simp only [mayB,Bool.and_eq_true,decide_eq_true_eq] at h;exact h.1
theorem may_lens {zs : List Int} (h : mayB zs = true) : Lens zs:=by
 simp only [mayB,Bool.and_eq_true,decide_eq_true_eq] at h
 have key : ∀ (l : List Int) (c s : Int),hmayGo l c s = true → Lens l:=by
  intro l
  induction l with
  | nil=>intro c s _ z hz;cases hz
  | cons n r ih=>
   intro c s hg
   rw [hmayGo_cons] at hg
   split at hg
   ·cases hg
   ·rename_i hn
    have hr : Lens r:=by
     split at hg
     ·exact ih _ _ hg
     ·exact ih _ _ hg
    intro z hz
    rcases List.mem_cons.1 hz with rfl | h'
    ·omega
    ·exact hr z h'
 exact key zs 0 0 h.2
theorem take_count_lt {zs : List Int} {k : Nat} {z : Int} (h : zs[k]? = some z) : (zs.take k).count z < zs.count z:=by
 have e : zs = zs.take k ++ (z :: zs.drop (k + 1)):=by
  have hk : k < zs.length:=(List.getElem?_eq_some_iff.1 h).1
  have hz : zs[k] = z:=by rw [List.getElem?_eq_getElem hk] at h;injection h
  rw [← hz,← List.drop_eq_getElem_cons hk,List.take_append_drop]
 have e2 : zs.count z = (zs.take k).count z + ((z :: zs.drop (k + 1)).count z):=by
  conv=>lhs;rw [e,List.count_append]
 rw [e2,List.count_cons_self];omega
theorem codes_does (w : World) (v : Value) (zs : List Int) (hv : IRow w v zs) (hm : mayB zs = true) :
  Does Tryz.prog 200 #[v] w fun r w'=>∃ b,r = .slice (some ⟨b,0,none⟩) zs.length zs.length ∧ w.heap.size ≤ b ∧ UB w' b (codesB zs) ∧ Ext w w':=by
 have hrow:=hv
 have hl:=may_len hm
 have hz:=may_lens hm
 obtain ⟨A,c,rfl,hc,hcm,hA⟩:=hv
 refine does1 Tryz.func200 rfl (by kernel_rfl) ?_
 refine wk ?_
 refine tscope1 (α:=Nat × Nat × Nat) 0 rfl (fun x=>[(0,.slice A zs.length c),(3,.pointer (some ⟨x.2.1,0,none⟩)),(4,.slice (some ⟨x.2.2,0,none⟩) zs.length zs.length),(5,.int .i64 (x.1 : Int))]) (fun x w'=>CodI zs x.2.1 x.2.2 w x.1 w' ∧ w.heap.size ≤ x.2.1 ∧ w.heap.size ≤ x.2.2) (fun x=>zs.length - x.1) ?_ ?_
 ·rintro ⟨k,g,b⟩ w1 ⟨⟨hk,hB,hU,hE⟩,hg,hb⟩
  dsimp only at hk hB hU hg hb ⊢
  have hgb : g ≠ b:=Blk.ne_ hB hU (by decide)
  by_cases hlt : k < zs.length
  ·obtain ⟨b0,o0,z,rfl,hb0,hzk,hcell,hdrop⟩:=at_row hA hlt
   have hzz:=hz z (List.mem_of_getElem? hzk)
   obtain ⟨q,rfl⟩:=Int.eq_ofNat_of_zero_le hzz.1
   have hcell1:=hE.cell hcell
   by_cases hq : q = 0
   ·subst hq
    refine wk ?_
    refine tgoto rfl ⟨_,(by show zs.length - (k + 1) < zs.length - k;omega),rfl,(k + 1,g,b),sub ⟨rfl,rfl,rfl,rfl⟩,⟨⟨by dsimp only;omega,?_,?_,hE⟩,hg,hb⟩,rfl⟩
    ·dsimp only
     rw [tabA_congr (f':=fun l=>firstB zs l + if l = 0 then 0 else (zs.take k).count (l : Int)) (m':=manyB zs) (fun l hl=>?_) (fun l hl=>rfl)]
     ·exact hB
     ·by_cases h0 : l = 0
      ·simp [h0]
      ·rw [if_neg h0,if_neg h0,List.take_add_one,hzk]
       simp only [Option.toList_some,List.count_append,List.count_singleton]
       have : ¬ (0 : Int) = (l : Int):=by omega
       simp [this]
    ·have : codesTo zs (k + 1) = codesTo zs k:=by
      unfold codesTo
      refine List.map_congr_left fun s hs=>?_
      by_cases h1 : s < k
      ·rw [if_pos h1,if_pos (by omega)]
      ·by_cases h2 : s = k
       ·subst h2;rw [if_pos (by omega),if_neg h1];simp [codeB,hzk]
       ·rw [if_neg h1,if_neg (by omega)]
     rw [this];exact hU
   ·have hfb:=firstB_lt zs hl q (by omega)
    have hmq : manyB zs q = zs.count (q : Int):=by unfold manyB;rw [if_neg hq]
    have htc:=take_count_lt hzk
    rw [← hmq] at htc
    have hcq : w1.cell? ⟨g,q,none⟩ = some (.int .u64 ((firstB zs q + (zs.take k).count (q : Int) : Nat) : Int)):=by rw [hB.cell,tabA_f _ _ _ (by omega)];simp [hq]
    refine wk ?_
    refine xiq q q rfl rfl rfl rfl rfl (by omega) (by omega) ?_
    refine wk ?_
    refine xstb hU rfl rfl rfl rfl (by simp [codesTo];omega) (fun w2 hU2 hF2=>?_)
    have hB2:=hB.fr hF2 (by show ¬ g = b;exact hgb)
    have hcq2 : w2.cell? ⟨g,q,none⟩ = some (.int .u64 ((firstB zs q + (zs.take k).count (q : Int) : Nat) : Int)):=by rw [hB2.cell,tabA_f _ _ _ (by omega)];simp [hq]
    refine wk ?_
    refine xiq q q rfl rfl rfl rfl rfl (by omega) (by omega) ?_
    refine wk ?_
    refine xiq q q rfl rfl rfl rfl rfl (by omega) (by omega) ?_
    refine xstb hB2 rfl rfl rfl rfl (by rw [size_tabA];simp;omega) (fun w3 hB3 hF3=>?_)
    refine wk ?_
    refine tgoto rfl ⟨_,(by show zs.length - (k + 1) < zs.length - k;omega),rfl,(k + 1,g,b),sub ⟨rfl,rfl,rfl,rfl⟩,⟨⟨by dsimp only;omega,?_,?_,(hE.te hF2 fun j hj e=>by omega).te hF3 fun j hj e=>by omega⟩,hg,hb⟩,rfl⟩
    ·have e : ((firstB zs q + (zs.take k).count (q : Int) : Nat) : Int) + 1 = ((firstB zs q + (zs.take k).count (q : Int) + 1 : Nat) : Int):=by omega
     rw [e,tabA_set_f _ _ _ _ (by omega)] at hB3
     dsimp only
     rw [tabA_congr (f':=updF (fun l=>firstB zs l + if l = 0 then 0 else (zs.take k).count (l : Int)) q (firstB zs q + (zs.take k).count (q : Int) + 1)) (m':=manyB zs) (fun l hl=>?_) (fun l hl=>rfl)]
     ·exact hB3
     ·unfold updF
      by_cases h0 : l = 0
      ·subst h0;simp [Ne.symm hq]
      ·rw [if_neg h0,List.take_add_one,hzk]
       simp only [Option.toList_some,List.count_append,List.count_singleton]
       by_cases h1 : l = q
       ·subst h1;simp;omega
       ·have : ¬ (q : Int) = (l : Int):=by omega
        simp [h1,this,h0]
    ·dsimp only
     have : UB w3 b ((codesTo zs k).set k ((firstB zs q + (zs.take k).count (q : Int) : Nat) : Int)):=by
      unfold UB
      rw [List.map_set]
      have:=Blk.fr hU2 hF3 (by show ¬ b = g;exact Ne.symm hgb)
      simpa using this
     have e : (codesTo zs k).set k ((firstB zs q + (zs.take k).count (q : Int) : Nat) : Int) = codesTo zs (k + 1):=by
      apply List.ext_getElem?
      intro s
      rw [List.getElem?_set]
      unfold codesTo
      by_cases hs : s < zs.length
      ·by_cases h1 : k = s
       ·subst h1
        simp only [List.length_map,List.length_range,hlt,if_true,List.getElem?_map,List.getElem?_range hlt,Option.map_some]
        rw [if_pos (by omega)]
        simp [codeB,hzk,show 0 < q by omega]
       ·rw [if_neg h1]
        simp only [List.getElem?_map,List.getElem?_range hs,Option.map_some]
        by_cases h2 : s < k
        ·rw [if_pos h2,if_pos (by omega)]
        ·rw [if_neg h2,if_neg (by omega)]
      ·rw [if_neg (by omega),List.getElem?_eq_none (by simp;omega),List.getElem?_eq_none (by simp;omega)]
     rw [e] at this
     exact this
  ·obtain rfl : k = zs.length:=by omega
   refine wk ?_
   have e : codesTo zs zs.length = codesB zs:=by
    unfold codesTo codesB
    exact List.map_congr_left fun s hs=>by rw [if_pos (by simpa using hs)]
   rw [e] at hU
   exact tret1 rfl rfl ⟨b,rfl,hb,hU,hE⟩
 ·intro H
  refine wk ?_
  refine xcall rfl rfl (hmay_does w _ zs hrow) (fun r w1 h1=>?_)
  obtain ⟨rfl,rfl⟩:=h1
  rw [hm]
  refine wk ?_
  refine xcall rfl rfl (hcount_does _ _ zs hrow hz hl) (fun r w2 h2=>?_)
  obtain ⟨rfl,hE2⟩:=h2
  refine xalloc (z:=.agg (tabA (fun _=>0) (fun _=>0))) (by kernel_rfl) (fun w3 hB3 hE3 hs3=>?_)
  refine xsta hB3 rfl rfl (by rw [size_tabA];rfl) (by show (tabA _ _).size = _;rw [size_tabA,size_tabA]) (tabA_one _ _) (fun w4 hB4 hF4=>?_)
  refine wk ?_
  refine xmk sl_uints rfl rfl rfl (by omega) (by omega) (by omega) (fun w5 hB5 hE5 hs5=>?_)
  rw [Int.toNat_natCast] at hB5 ⊢
  refine wk ?_
  refine tlabel ?_
  have hsz2:=hE2.size
  have hF24 : Ext w w4:=(hE2.te hE3 fun _ _ hh=>hh).te hF4 fun j hj e=>by omega
  have hsz4:=hF24.size
  refine tweak (H (0,w2.heap.size,w4.heap.size) w5 ⟨⟨by dsimp only;omega,?_,?_,hF24.te hE5 fun _ _ hh=>hh⟩,hsz2,hsz4⟩) (sub ⟨rfl,rfl,rfl,rfl⟩)
  ·dsimp only
   have:=hB4.ext hE5
   rw [tabA_congr (f':=firstB zs) (m':=manyB zs) (fun l hl=>by simp) (fun l hl=>rfl)]
   exact this
  ·dsimp only
   unfold UB
   have e : codesTo zs 0 = List.replicate zs.length 0:=by
    apply List.ext_getElem
    ·simp [codesTo]
    ·intro i h1 h2;simp [codesTo]
   rw [e,List.map_replicate]
   simpa using hB5
end
end Go.Proofs.YtbpmlbjapapoaaaGreatDoor.Eng
namespace Go.Proofs.YtbpmlbjapapoaaaGreatDoor
open Go.RowKit
namespace Eng
namespace Rn
noncomputable def e0 : En:=⟨[],[],[],[]⟩
noncomputable def nmK (q : IntKind) (l : List SV) (k : List Nat → Rs) : Rs:=List.rec (motive:=fun _=>(List Nat → Rs) → Rs) (fun k=>k []) (fun x _ ih k=>onN (.v x) fun q' a=>kkK q' q (ih fun r=>k (a :: r))) l k
noncomputable def inK (σ : Mem) (x : AV) (k : List Nat → Rs) : Rs:=onL x (k []) (fun id z j n=>rdK σ id (Nat.mul j z) n fun l=>nmK .i64 l k) (fun id z j n _=>rdK σ id (Nat.mul j z) n fun l=>nmK .i64 l k) (k []) (fun _=>.no) fun _ _=>.no
noncomputable def on1 (al : List AV) (k : AV → Rs) : Rs:=List.rec (motive:=fun _=>Rs) .no (fun x r _=>List.rec (motive:=fun _=>Rs) (k x) (fun _ _ _=>.no) r) al
noncomputable def bR (σ : Mem) (b : Bool) : Rs:=Bool.rec (motive:=fun _=>Rs) (.mk (.val (.v (.b false))) e0 σ) (.mk (.val (.v (.b true))) e0 σ) b
noncomputable def lnN (l : List Nat) : Nat:=List.rec (motive:=fun _=>Nat) 0 (fun _ _ ih=>Nat.add ih 1) l
theorem lnN_eq : ∀ l : List Nat,lnN l = l.length
 | []=>rfl
 | _ :: l=>by
  show Nat.add (lnN l) 1 = _
  rw [lnN_eq l];rfl
section
variable {w0 : Fm} {σ : Mem} {res : Rs} {ρ : Pl} {w : World} (hr : res ≠ .no)
include hr
theorem nmK_inv {q : IntKind} : ∀ {l : List SV} {vs : List Value} {k : List Nat → Rs},nmK q l k = res → SRs ρ l vs → ∃ r : List Nat,r.length = l.length ∧ vs = r.map (fun a=>Value.int q (Int.ofNat a)) ∧ k r = res
 | [],vs,k,h,hl=>by
  cases hl
  exact ⟨[],rfl,rfl,h⟩
 | x :: l,vs,k,h,hl=>by
  cases hl with
  | cons h1 h2=>
   obtain ⟨q',a,e0,g1⟩:=onN_inv hr (show onN (.v x) (fun q' a=>kkK q' q (nmK q l fun r=>k (a :: r))) = res from h)
   obtain ⟨g2,g3⟩:=kkK_inv hr g1
   subst g2
   injection e0 with e0
   subst e0
   obtain ⟨r,g4,g5,g6⟩:=nmK_inv g3 h2
   exact ⟨a :: r,by simp [g4],by rw [h1.2.1,g5,List.map_cons],g6⟩
theorem inK_inv (hM : MR w0 ρ σ w) {x : AV} {vx : Value} {k : List Nat → Rs} (hx : AR ρ x vx) (h : inK σ x k = res) : ∃ r : List Nat,IRow w vx (r.map Int.ofNat) ∧ k r = res:=by
 have row : ∀ {id o n cap : Nat} {p : At} {k : List Nat → Rs},ρ[id]? = some p → n ≤ cap → cap ≤ maxLen → rdK σ id o n (fun l=>nmK .i64 l k) = res → ∃ r : List Nat,IRow w (.slice (some ⟨p.b,o,none⟩) n cap) (r.map Int.ofNat) ∧ k r = res:=fun {id o n cap p k} hp h1 h2 h=>by
  obtain ⟨ob,l,g3,g4,g5,g6⟩:=rdK_inv hr h
  obtain ⟨vs,h4,h5⟩:=hM.cells hp (l:=l) (o:=o) (fun i hi=>g5 i (by omega))
  obtain ⟨r,h6,h7,h8⟩:=nmK_inv hr g6 h4
  refine ⟨r,⟨some ⟨p.b,o,none⟩,cap,by rw [List.length_map,h6,g4],by rw [List.length_map,h6,g4];exact h1,h2,fun hn=>⟨p.b,o,rfl,?_,fun j u hu=>?_⟩⟩,h8⟩
  ·rw [List.length_map] at hn
   have hv0 : vs[0]? = some (Value.int .i64 (Int.ofNat r[0])):=by rw [h7];simp [hn]
   exact World.block_lt_of_cell? w ⟨p.b,o + 0,none⟩ (h5 0 _ hv0).1
  ·refine (h5 j u ?_).1
   rw [h7]
   rw [List.map_map] at hu
   exact hu
 rcases onL_inv hr h with ⟨e1,g1⟩ | ⟨id,z,j,n,e1,g1⟩ | ⟨id,z,j,n,c,e1,g1⟩ | ⟨_,_,_,_,e1,g1⟩ | ⟨l,e1,g1⟩ | ⟨id,o,e1,g1⟩ <;> subst e1
 ·have e2 : vx = .slice none 0 0:=hx
  subst e2
  exact ⟨[],⟨none,0,rfl,Nat.le_refl _,Nat.zero_le _,fun hn=>absurd hn (by simp)⟩,g1⟩
 ·obtain ⟨p,hp,_,hc,hm,rfl⟩:=hx
  exact row hp (by omega) (by omega) g1
 ·obtain ⟨p,hp,hnc,hm,rfl⟩:=hx
  exact row hp hnc hm g1
 ·obtain ⟨p,hp,hm,rfl⟩:=hx
  exact ⟨[],⟨_,_,rfl,Nat.zero_le _,by omega,fun hn=>absurd hn (by simp)⟩,g1⟩
 ·exact absurd g1.symm hr
 ·exact absurd g1.symm hr
theorem on1_inv {al : List AV} {vs : List Value} {k : AV → Rs} (ha : ARs ρ al vs) (h : on1 al k = res) : ∃ x v,vs = [v] ∧ AR ρ x v ∧ k x = res:=by
 cases ha with
 | nil=>exact absurd h.symm hr
 | cons h1 h2=>
  cases h2 with
  | nil=>exact ⟨_,_,rfl,h1,h⟩
  | cons _ _=>exact absurd h.symm hr
end
theorem val_ne {v : AV} {e : En} {σ : Mem} : Rs.mk (.val v) e σ ≠ .no:=fun h=>by cases h
theorem bR_inv {σ σ' : Mem} {b : Bool} {v : AV} {e : En} (h : bR σ b = .mk (.val v) e σ') : v = .v (.b b) ∧ σ' = σ:=by
 cases b <;> (injection h with h1 _ h3;injection h1 with h1;exact ⟨h1.symm,h3.symm⟩)
theorem orc_row {f : Nat} {o : List AV → Mem → Rs} {g : List Nat → Mem → Rs} (ho : ∀ al σ,o al σ = on1 al fun x=>inK σ x fun l=>g l σ) (hg : ∀ (r : List Nat) (v : Value) (σ : Mem) (w : World) (a : AV) e σ',IRow w v (r.map Int.ofNat) → g r σ = .mk (.val a) e σ' → σ' = σ ∧ Does Tryz.prog f #[v] w fun val w'=>(∀ ρ,AR ρ a val) ∧ Ext w w') : OrcS f o:=fun w0 al σ a e' σ' ρ vs w h ha hM=>by
 rw [ho] at h
 obtain ⟨x,v,rfl,h1,h2⟩:=on1_inv val_ne ha h
 obtain ⟨r,h3,h4⟩:=inK_inv val_ne hM h1 h2
 obtain ⟨rfl,hd⟩:=hg r v σ w a e' σ' h3 h4
 exact Does.mono hd fun val w' hh=>⟨ρ,Up.refl ρ,hh.1 ρ,hM.ext hh.2⟩
noncomputable def mayGN (l : List Nat) (c s : Nat) : Bool:=List.rec (motive:=fun _=>Nat → Nat → Bool) (fun c s=>Bool.rec (motive:=fun _=>Bool) (Bool.rec (motive:=fun _=>Bool) (Nat.beq s 4096) true (Nat.beq c 0)) (Nat.beq s 2048) (Nat.beq c 1)) (fun n _ ih c s=>Bool.rec (motive:=fun _=>Bool) false (Nat.rec (motive:=fun _=>Bool) (ih c s) (fun _ _=>cN (Nat.add c 1) fun c=>cN (Nat.add s (Nat.pow 2 (Nat.sub 12 n))) fun s=>ih c s) n) (Nat.ble n 12)) l c s
noncomputable def mayN (l : List Nat) : Bool:=an (Nat.ble (lnN l) 400) (mayGN l 0 0)
theorem beq_dec (a b : Nat) : Nat.beq a b = decide (a = b):=by
 rcases beq_cases a b with ⟨h1,h2⟩ | ⟨h1,h2⟩
 ·rw [h2];simp [h1]
 ·rw [h2];simp [h1]
theorem an_and (a b : Bool) : an a b = (a && b):=by cases a <;> rfl
theorem mayGN_eq : ∀ (l : List Nat) (c s : Nat),mayGN l c s = hmayGo (l.map Int.ofNat) c s
 | [],c,s=>by
  show Bool.rec (motive:=fun _=>Bool) (Bool.rec (motive:=fun _=>Bool) (Nat.beq s 4096) true (Nat.beq c 0)) (Nat.beq s 2048) (Nat.beq c 1) = _
  rw [List.map_nil,hmayGo_nil]
  rcases beq_cases c 1 with ⟨h1,h2⟩ | ⟨h1,h2⟩
  ·have hc1 : (c : Int) = 1:=by omega
   rw [h2,if_pos hc1]
   show Nat.beq s 2048 = _
   rw [beq_dec]
   exact decide_eq_decide.2 (by omega)
  ·have hc1 : ¬ (c : Int) = 1:=by omega
   rw [h2,if_neg hc1]
   rcases beq_cases c 0 with ⟨h3,h4⟩ | ⟨h3,h4⟩
   ·rw [h4]
    have : decide ((c : Int) = 0) = true:=by simp;exact h3
    rw [this];rfl
   ·rw [h4]
    have : decide ((c : Int) = 0) = false:=by simp;exact h3
    rw [this,Bool.false_or]
    show Nat.beq s 4096 = _
    rw [beq_dec]
    exact decide_eq_decide.2 (by omega)
 | n :: l,c,s=>by
  have e1 : mayGN (n :: l) c s = Bool.rec (motive:=fun _=>Bool) false (Nat.rec (motive:=fun _=>Bool) (mayGN l c s) (fun _ _=>cN (Nat.add c 1) fun c=>cN (Nat.add s (Nat.pow 2 (Nat.sub 12 n))) fun s=>mayGN l c s) n) (Nat.ble n 12):=rfl
  rw [e1,List.map_cons,hmayGo_cons]
  cases hb : Nat.ble n 12 with
  | false=>
   have : ¬ n ≤ 12:=fun hh=>by rw [Nat.ble_eq_true_of_le hh] at hb;cases hb
   rw [if_pos (.inr (by show (12 : Int) < (n : Int);omega))]
  | true=>
   have hle:=Nat.le_of_ble_eq_true hb
   rw [if_neg (by show ¬ ((n : Int) < 0 ∨ (12 : Int) < (n : Int));omega)]
   cases n with
   | zero=>
    rw [if_neg (by decide)]
    exact mayGN_eq l c s
   | succ m=>
    rw [if_pos (by show (0 : Int) < ((m + 1 : Nat) : Int);omega)]
    show cN (Nat.add c 1) (fun c=>cN (Nat.add s (Nat.pow 2 (Nat.sub 12 (m + 1)))) fun s=>mayGN l c s) = _
    rw [cN_eq,cN_eq,mayGN_eq]
    congr 1
    show ((s + 2 ^ (12 - (m + 1)) : Nat) : Int) = _
    have : p2 (12 - Int.ofNat (m + 1)) = ((2 ^ (12 - (m + 1)) : Nat) : Int):=by
     unfold p2
     have : (12 - Int.ofNat (m + 1)).toNat = 12 - (m + 1):=by show ((12 : Int) - ((m + 1 : Nat) : Int)).toNat = _;omega
     rw [this];simp
    rw [this];omega
theorem mayN_eq (l : List Nat) : mayN l = mayB (l.map Int.ofNat):=by
 unfold mayN mayB
 rw [an_and,mayGN_eq,ble_dec,lnN_eq,List.length_map]
 rfl
noncomputable def mayO (al : List AV) (σ : Mem) : Rs:=on1 al fun x=>inK σ x fun l=>bR σ (mayN l)
theorem may_orc : OrcS 199 mayO:=orc_row (g:=fun l σ=>bR σ (mayN l)) (fun _ _=>rfl) fun r v σ w a e σ' hv h=>by
 obtain ⟨rfl,rfl⟩:=bR_inv h
 refine ⟨rfl,Does.mono (hmay_does w v _ hv) fun val w' hh=>?_⟩
 obtain ⟨rfl,rfl⟩:=hh
 exact ⟨fun ρ=>by rw [mayN_eq];rfl,Fr.refl _ _⟩
noncomputable def mxK (up : Bool) (l : List Nat) (a : Nat) (k : Nat → Rs) : Rs:=List.rec (motive:=fun _=>Nat → Rs) k (fun x _ ih a=>ifK (eB up (Nat.ble a x)) (ih x) (ih a)) l a
theorem mxK_eq (up : Bool) : ∀ (l : List Nat) (a : Nat) (k : Nat → Rs),mxK up l a k = k (l.foldl (fun a x=>if up then max a x else min a x) a)
 | [],_,_=>rfl
 | x :: l,a,k=>by
  have e1 : mxK up (x :: l) a k = ifK (eB up (Nat.ble a x)) (mxK up l x k) (mxK up l a k):=rfl
  rw [e1,ifK_eq,eB_eq,mxK_eq,mxK_eq,ble_dec,List.foldl_cons]
  cases up with
  | true=>
   by_cases h : a ≤ x
   ·rw [if_pos (by simp [h])];simp [Nat.max_eq_right h]
   ·rw [if_neg (by simp [h])];simp [Nat.max_eq_left (Nat.le_of_not_le h)]
  | false=>
   by_cases h : a ≤ x
   ·rw [if_neg (by simp [h])];simp [Nat.min_eq_left h]
   ·rw [if_pos (by simp [h])];simp [Nat.min_eq_right (Nat.le_of_not_le h)]
noncomputable def mxO (up : Bool) (al : List AV) (σ : Mem) : Rs:=on1 al fun x=>inK σ x fun l=>List.rec (motive:=fun _=>Rs) .no (fun a r _=>okK (Nat.ble (lnN (a :: r)) 1000000) (mxK up r a fun m=>okK (Nat.ble m 9223372036854775807) (.mk (.val (.v (.n .i64 m))) e0 σ))) l
theorem mx_inv {up : Bool} {σ σ' : Mem} {l : List Nat} {v : AV} {e : En} (h : (List.rec (motive:=fun _=>Rs) .no (fun a r _=>okK (Nat.ble (lnN (a :: r)) 1000000) (mxK up r a fun m=>okK (Nat.ble m 9223372036854775807) (.mk (.val (.v (.n .i64 m))) e0 σ))) l) = .mk (.val v) e σ') : ∃ a r,l = a :: r ∧ l.length ≤ 1000000 ∧ v = .v (.n .i64 (r.foldl (fun a x=>if up then max a x else min a x) a)) ∧ r.foldl (fun a x=>if up then max a x else min a x) a ≤ 9223372036854775807 ∧ σ' = σ:=by
 cases l with
 | nil=>cases h
 | cons a r=>
  obtain ⟨h1,h⟩:=okK_inv (show okK (Nat.ble (lnN (a :: r)) 1000000) (mxK up r a fun m=>okK (Nat.ble m 9223372036854775807) (.mk (.val (.v (.n .i64 m))) e0 σ)) = _ from h) val_ne
  rw [mxK_eq] at h
  obtain ⟨h2,h⟩:=okK_inv h val_ne
  have h1:=Nat.le_of_ble_eq_true h1
  rw [lnN_eq] at h1
  injection h with h3 _ h5
  injection h3 with h3
  exact ⟨a,r,rfl,h1,h3.symm,Nat.le_of_ble_eq_true h2,h5.symm⟩
theorem fold_max : ∀ (r : List Nat) (a : Nat),(r.map Int.ofNat).foldl max (a : Int) = ((r.foldl (fun a x=>if true then max a x else min a x) a : Nat) : Int)
 | [],_=>rfl
 | x :: r,a=>by
  rw [List.map_cons,List.foldl_cons,List.foldl_cons]
  have : max (a : Int) (Int.ofNat x) = ((max a x : Nat) : Int):=by show max (a : Int) (x : Int) = _;omega
  rw [this];exact fold_max r _
theorem fold_min : ∀ (r : List Nat) (a : Nat),(r.map Int.ofNat).foldl min (a : Int) = ((r.foldl (fun a x=>if false then max a x else min a x) a : Nat) : Int)
 | [],_=>rfl
 | x :: r,a=>by
  rw [List.map_cons,List.foldl_cons,List.foldl_cons]
  have : min (a : Int) (Int.ofNat x) = ((min a x : Nat) : Int):=by show min (a : Int) (x : Int) = _;omega
  rw [this];exact fold_min r _
theorem max_orc : OrcS 196 (mxO true):=orc_row (g:=fun l σ=>List.rec (motive:=fun _=>Rs) .no (fun a r _=>okK (Nat.ble (lnN (a :: r)) 1000000) (mxK true r a fun m=>okK (Nat.ble m 9223372036854775807) (.mk (.val (.v (.n .i64 m))) e0 σ))) l) (fun _ _=>rfl) fun r v σ w a e σ' hv h=>by
 obtain ⟨x,r,rfl,h1,rfl,h2,rfl⟩:=mx_inv h
 refine ⟨rfl,Does.mono (max_does w v _ hv (by simp) (by rw [List.length_map];omega)) fun val w' hh=>?_⟩
 obtain ⟨rfl,rfl⟩:=hh
 exact ⟨fun ρ=>⟨by unfold maxL;rw [List.map_cons];exact congrArg _ (fold_max r x),h2⟩,Fr.refl _ _⟩
theorem min_orc : OrcS 195 (mxO false):=orc_row (g:=fun l σ=>List.rec (motive:=fun _=>Rs) .no (fun a r _=>okK (Nat.ble (lnN (a :: r)) 1000000) (mxK false r a fun m=>okK (Nat.ble m 9223372036854775807) (.mk (.val (.v (.n .i64 m))) e0 σ))) l) (fun _ _=>rfl) fun r v σ w a e σ' hv h=>by
 obtain ⟨x,r,rfl,h1,rfl,h2,rfl⟩:=mx_inv h
 refine ⟨rfl,Does.mono (min_does w v _ hv (by simp) (by rw [List.length_map];omega)) fun val w' hh=>?_⟩
 obtain ⟨rfl,rfl⟩:=hh
 exact ⟨fun ρ=>⟨by unfold minL;rw [List.map_cons];exact congrArg _ (fold_min r x),h2⟩,Fr.refl _ _⟩
end Rn
end Eng
end Go.Proofs.YtbpmlbjapapoaaaGreatDoor
namespace Go.Proofs.YtbpmlbjapapoaaaGreatDoor
open Go.RowKit
namespace Eng
namespace Rn
noncomputable def dg (T j : Nat) : Nat:=Nat.mod (Nat.shiftRight T (Nat.mul 16 j)) 65536
noncomputable def bitN (x : Nat) : Nat:=Nat.shiftLeft 1 (Nat.mul 16 x)
noncomputable def pkN (l : List Nat) : Nat:=List.rec (motive:=fun _=>Nat) 0 (fun x _ ih=>Nat.add ih (bitN x)) l
def ofD : List Nat → Nat
 | []=>0
 | d :: r=>d + 65536 * ofD r
theorem bitN_eq (x : Nat) : bitN x = 65536 ^ x:=by
 show 1 <<< (16 * x) = _
 rw [Nat.shiftLeft_eq,Nat.one_mul,Nat.pow_mul]
theorem dg_eq (T j : Nat) : dg T j = T / 65536 ^ j % 65536:=by
 show (T >>> (16 * j)) % 65536 = _
 rw [Nat.shiftRight_eq_div_pow,Nat.pow_mul]
theorem dg_of : ∀ {ds : List Nat} {j : Nat},(∀ d ∈ ds,d < 65536) → dg (ofD ds) j = ds[j]?.getD 0
 | [],j,_=>by rw [dg_eq];simp [ofD]
 | d :: r,0,h=>by
  have hd:=h d (by simp)
  rw [dg_eq]
  show (d + 65536 * ofD r) / 65536 ^ 0 % 65536 = d
  rw [Nat.pow_zero,Nat.div_one]
  omega
 | d :: r,j + 1,h=>by
  have hd:=h d (by simp)
  have ih:=dg_of (ds:=r) (j:=j) (fun x hx=>h x (List.mem_cons_of_mem _ hx))
  rw [dg_eq] at ih ⊢
  rw [List.getElem?_cons_succ,← ih]
  show (d + 65536 * ofD r) / 65536 ^ (j + 1) % 65536 = _
  have e3 : (d + 65536 * ofD r) / 65536 = ofD r:=by omega
  have e4 : (65536 : Nat) ^ (j + 1) = 65536 * 65536 ^ j:=by rw [Nat.pow_succ,Nat.mul_comm]
  rw [e4,← Nat.div_div_eq_div_mul,e3]
theorem ofD_modify : ∀ {ds : List Nat} {j : Nat},j < ds.length → ofD (ds.modify j (· + 1)) = ofD ds + 65536 ^ j
 | [],j,h=>by cases h
 | d :: r,0,_=>by
  show d + 1 + 65536 * ofD r = d + 65536 * ofD r + 1
  omega
 | d :: r,j + 1,h=>by
  have ih:=ofD_modify (ds:=r) (j:=j) (Nat.lt_of_succ_lt_succ h)
  show d + 65536 * ofD (r.modify j (· + 1)) = d + 65536 * ofD r + 65536 ^ (j + 1)
  rw [ih,Nat.pow_succ];omega
def cnL (F : Nat → Nat) (l : List Nat) : List Nat:=(List.range 13).map fun j=>F j + l.count j
theorem cnL_snoc (F : Nat → Nat) (l : List Nat) {x : Nat} (hx : x ≤ 12) : ofD (cnL F (l ++ [x])) = ofD (cnL F l) + bitN x:=by
 rw [bitN_eq,← ofD_modify (by simp [cnL];omega)]
 congr 1
 apply List.ext_getElem?
 intro i
 rw [List.getElem?_modify]
 unfold cnL
 rw [List.getElem?_map,List.getElem?_map]
 by_cases hi : i < 13
 ·rw [List.getElem?_range hi]
  simp only [Option.map_some,List.count_append,List.count_singleton]
  by_cases hxi : x = i
  ·subst hxi;simp;omega
  ·have : (x == i) = false:=by simpa using hxi
   rw [this]
   show _ = some (if x = i then _ else _)
   rw [if_neg hxi];simp
 ·rw [List.getElem?_eq_none (by simpa using hi)]
  simp
theorem pkN_eq : ∀ {l : List Nat},(∀ x ∈ l,x ≤ 12) → pkN l = ofD (cnL (fun _=>0) l)
 | [],_=>by
  show (0 : Nat) = _
  decide
 | x :: l,h=>by
  have ih:=pkN_eq (l:=l) fun y hy=>h y (List.mem_cons_of_mem _ hy)
  show pkN l + bitN x = _
  rw [ih,← cnL_snoc _ _ (h x (by simp))]
  congr 1
  unfold cnL
  refine List.map_congr_left fun j _=>?_
  rw [List.count_append,List.count_singleton,List.count_cons]
theorem cnL_get {F : Nat → Nat} {l : List Nat} {j : Nat} (hj : j ≤ 12) (hF : ∀ i,i ≤ 12 → F i + l.count i < 65536) : dg (ofD (cnL F l)) j = F j + l.count j:=by
 rw [dg_of fun d hd=>?_]
 ·unfold cnL
  rw [List.getElem?_map,List.getElem?_range (by omega)];rfl
 ·unfold cnL at hd
  obtain ⟨i,hi,rfl⟩:=List.mem_map.1 hd
  rw [List.mem_range] at hi
  exact hF i (by omega)
noncomputable def mN (T j : Nat) : Nat:=Nat.rec (motive:=fun _=>Nat) 0 (fun _ _=>dg T j) j
noncomputable def fsK (T n j f : Nat) (k : List Nat → Rs) : Rs:=Nat.rec (motive:=fun _=>Nat → Nat → (List Nat → Rs) → Rs) (fun _ _ k=>k []) (fun _ ih j f k=>fN (Nat.mul (Nat.add f (mN T j)) 2) fun f'=>fN (Nat.add j 1) fun j'=>ih j' f' fun r=>k (f :: r)) n j f k
noncomputable def msK (T n j : Nat) (k : List Nat → Rs) : Rs:=Nat.rec (motive:=fun _=>Nat → (List Nat → Rs) → Rs) (fun _ k=>k []) (fun _ ih j k=>fN (mN T j) fun x=>fN (Nat.add j 1) fun j'=>ih j' fun r=>k (x :: r)) n j k
noncomputable def uK (l : List Nat) (k : List SV → Rs) : Rs:=List.rec (motive:=fun _=>(List SV → Rs) → Rs) (fun k=>k []) (fun x _ ih k=>okK (Nat.ble x 60000) (ih fun r=>k (.n .u64 x :: r))) l k
theorem uK_inv {res : Rs} (hr : res ≠ .no) : ∀ {l : List Nat} {k : List SV → Rs},uK l k = res → (∀ x ∈ l,x ≤ 60000) ∧ k (l.map fun x=>.n .u64 x) = res
 | [],k,h=>⟨fun x hx=>(by cases hx),h⟩
 | x :: l,k,h=>by
  obtain ⟨h1,h2⟩:=okK_inv (show okK (Nat.ble x 60000) (uK l fun r=>k (.n .u64 x :: r)) = res from h) hr
  obtain ⟨h3,h4⟩:=uK_inv hr h2
  refine ⟨fun y hy=>?_,h4⟩
  rcases List.mem_cons.1 hy with rfl | hy
  ·exact Nat.le_of_ble_eq_true h1
  ·exact h3 y hy
theorem u_rel (ρ : Pl) : ∀ {l : List Nat},(∀ x ∈ l,x ≤ 60000) → SRs ρ (l.map fun x=>.n .u64 x) (l.map fun x=>Value.int .u64 (Int.ofNat x))
 | [],_=>.nil
 | x :: l,h=>.cons ⟨rfl,rfl,by
   have:=h x (by simp)
   show x ≤ 18446744073709551615
   omega⟩ (u_rel ρ fun y hy=>h y (List.mem_cons_of_mem _ hy))
theorem count_map (l : List Nat) (j : Nat) : (l.map Int.ofNat).count (j : Int) = l.count j:=by
 induction l with
 | nil=>rfl
 | cons x l ih=>
  rw [List.map_cons,List.count_cons,List.count_cons,ih]
  congr 1
  by_cases h : x = j
  ·subst h;simp
  ·have h1 : (Int.ofNat x == (j : Int)) = false:=beq_eq_false_iff_ne.2 fun hh=>h (Int.ofNat.inj hh)
   have h2 : (x == j) = false:=beq_eq_false_iff_ne.2 h
   rw [h1,h2]
section
variable {l : List Nat} (hl : ∀ x ∈ l,x ≤ 12) (hn : l.length ≤ 400)
include hl hn
theorem mN_eq {j : Nat} (hj : j ≤ 12) : mN (pkN l) j = manyB (l.map Int.ofNat) j:=by
 unfold manyB
 cases j with
 | zero=>rfl
 | succ j=>
  rw [if_neg (by omega),count_map]
  show dg (pkN l) (j + 1) = _
  rw [pkN_eq hl,cnL_get (F:=fun _=>0) hj fun i _=>(by have:=List.count_le_length (a:=i) (l:=l);omega)]
  exact Nat.zero_add _
theorem fsK_eq : ∀ (n j : Nat) (k : List Nat → Rs),j + n ≤ 13 → fsK (pkN l) n j (firstB (l.map Int.ofNat) j) k = k ((List.range' j n).map (firstB (l.map Int.ofNat)))
 | 0,_,_,_=>rfl
 | n + 1,j,k,h=>by
  have e1 : fsK (pkN l) (n + 1) j (firstB (l.map Int.ofNat) j) k = fN (Nat.mul (Nat.add (firstB (l.map Int.ofNat) j) (mN (pkN l) j)) 2) fun f'=>fN (Nat.add j 1) fun j'=>fsK (pkN l) n j' f' fun r=>k (firstB (l.map Int.ofNat) j :: r):=rfl
  rw [e1,fN_eq,fN_eq,mN_eq hl hn (by omega)]
  have e2 : Nat.mul (Nat.add (firstB (l.map Int.ofNat) j) (manyB (l.map Int.ofNat) j)) 2 = firstB (l.map Int.ofNat) (j + 1):=rfl
  rw [e2]
  exact fsK_eq n (j + 1) _ (by omega)
theorem msK_eq : ∀ (n j : Nat) (k : List Nat → Rs),j + n ≤ 13 → msK (pkN l) n j k = k ((List.range' j n).map (manyB (l.map Int.ofNat)))
 | 0,_,_,_=>rfl
 | n + 1,j,k,h=>by
  have e1 : msK (pkN l) (n + 1) j k = fN (mN (pkN l) j) fun x=>fN (Nat.add j 1) fun j'=>msK (pkN l) n j' fun r=>k (x :: r):=rfl
  rw [e1,fN_eq,fN_eq,mN_eq hl hn (by omega)]
  exact msK_eq n (j + 1) _ (by omega)
end
noncomputable def le12 (l : List Nat) : Bool:=List.rec (motive:=fun _=>Bool) true (fun x _ ih=>an (Nat.ble x 12) ih) l
theorem le12_spec : ∀ {l : List Nat},le12 l = true → ∀ x ∈ l,x ≤ 12
 | [],_,x,hx=>by cases hx
 | y :: l,h,x,hx=>by
  obtain ⟨h1,h2⟩:=an_inv (show an (Nat.ble y 12) (le12 l) = true from h)
  rcases List.mem_cons.1 hx with rfl | hx
  ·exact Nat.le_of_ble_eq_true h1
  ·exact le12_spec h2 x hx
theorem le_lens {l : List Nat} (h : ∀ x ∈ l,x ≤ 12) : Lens (l.map Int.ofNat):=fun z hz=>by
 obtain ⟨x,hx,rfl⟩:=List.mem_map.1 hz
 have:=h x hx
 exact ⟨Int.natCast_nonneg x,by show (x : Int) ≤ 12;omega⟩
noncomputable def tabK (l : List Nat) (k : List Nat → List Nat → Rs) : Rs:=okK (le12 l) (okK (Nat.ble (lnN l) 400) (fN (pkN l) fun T=>fsK T 13 0 0 fun F=>msK T 13 0 fun M=>k F M))
theorem tabK_inv {res : Rs} (hr : res ≠ .no) {l : List Nat} {k : List Nat → List Nat → Rs} (h : tabK l k = res) : (∀ x ∈ l,x ≤ 12) ∧ l.length ≤ 400 ∧ k ((List.range 13).map (firstB (l.map Int.ofNat))) ((List.range 13).map (manyB (l.map Int.ofNat))) = res:=by
 obtain ⟨h1,h⟩:=okK_inv h hr
 obtain ⟨h2,h⟩:=okK_inv h hr
 have h1:=le12_spec h1
 have h2:=Nat.le_of_ble_eq_true h2
 rw [lnN_eq] at h2
 rw [fN_eq] at h
 have h : fsK (pkN l) 13 0 (firstB (l.map Int.ofNat) 0) (fun F=>msK (pkN l) 13 0 fun M=>k F M) = res:=h
 rw [fsK_eq h1 h2 13 0 _ (by omega),msK_eq h1 h2 13 0 _ (by omega)] at h
 exact ⟨h1,h2,h⟩
noncomputable def countG (l : List Nat) (σ : Mem) : Rs:=tabK l fun F M=>uK (F ++ M) fun cs=>.mk (.val (.g cs)) e0 σ
noncomputable def countO (al : List AV) (σ : Mem) : Rs:=on1 al fun x=>inK σ x fun l=>countG l σ
theorem count_orc : OrcS 218 countO:=orc_row (g:=countG) (fun _ _=>rfl) fun r v σ w a e σ' hv h=>by
 obtain ⟨h1,h2,h3⟩:=tabK_inv val_ne h
 obtain ⟨h4,h5⟩:=uK_inv val_ne h3
 injection h5 with h6 _ h8
 injection h6 with h6
 subst h8
 refine ⟨rfl,Does.mono (hcount_does w v _ hv (le_lens h1) (by rw [List.length_map];exact h2)) fun val w' hh=>?_⟩
 obtain ⟨rfl,hE⟩:=hh
 refine ⟨fun ρ=>?_,hE⟩
 rw [← h6]
 refine ⟨_,u_rel ρ h4,?_⟩
 unfold tabA tabL
 rw [List.map_append,List.map_map,List.map_map]
 rfl
noncomputable def pF (l : List Nat) : Nat:=List.rec (motive:=fun _=>Nat) 0 (fun x _ ih=>Nat.add x (Nat.mul 65536 ih)) l
theorem pF_eq : ∀ l : List Nat,pF l = ofD l
 | []=>rfl
 | x :: l=>by
  show x + 65536 * pF l = x + 65536 * ofD l
  rw [pF_eq l]
noncomputable def cdK (l : List Nat) (T : Nat) (k : List Nat → Rs) : Rs:=List.rec (motive:=fun _=>Nat → (List Nat → Rs) → Rs) (fun _ k=>k []) (fun x _ ih T k=>Nat.rec (motive:=fun _=>Rs) (ih T fun r=>k (0 :: r)) (fun _ _=>fN (dg T x) fun c=>fN (Nat.add T (bitN x)) fun T=>ih T fun r=>k (c :: r)) x) l T k
theorem cdK_eq {zs : List Nat} (hz : ∀ x ∈ zs,x ≤ 12) (hF : ∀ i,i ≤ 12 → firstB (zs.map Int.ofNat) i ≤ 60000) (hn : zs.length ≤ 400) : ∀ {l pre q : List Nat} {k : List Nat → Rs},zs = pre ++ l → (∀ j,0 < j → q.count j = pre.count j) → q.length ≤ pre.length → cdK l (ofD (cnL (firstB (zs.map Int.ofNat)) q)) k = k ((List.range' pre.length l.length).map (codeB (zs.map Int.ofNat)))
 | [],_,_,_,_,_,_=>rfl
 | x :: l,pre,q,k,he,hq,hql=>by
  have hget : zs[pre.length]? = some x:=by rw [he];simp
  have hx : x ≤ 12:=hz x (by rw [he];simp)
  have htake : (zs.map Int.ofNat).take pre.length = pre.map Int.ofNat:=by rw [he,List.map_append,List.take_left' (by simp)]
  have hlen : pre.length + l.length + 1 = zs.length:=by rw [he];simp;omega
  have hcode : codeB (zs.map Int.ofNat) pre.length = if 0 < x then firstB (zs.map Int.ofNat) x + pre.count x else 0:=by
   unfold codeB
   rw [List.getElem?_map,hget]
   show (if 0 < Int.ofNat x then firstB (zs.map Int.ofNat) (Int.ofNat x).toNat + ((zs.map Int.ofNat).take pre.length).count (Int.ofNat x) else 0) = _
   rw [htake]
   have:=count_map pre x
   by_cases h0 : 0 < x
   ·have h1 : (0 : Int) < Int.ofNat x:=by show (0 : Int) < (x : Int);omega
    rw [if_pos h0,if_pos h1]
    show firstB (zs.map Int.ofNat) x + _ = _
    rw [← this];rfl
   ·have h1 : ¬ (0 : Int) < Int.ofNat x:=by show ¬ (0 : Int) < (x : Int);omega
    rw [if_neg h0,if_neg h1]
  rw [List.length_cons,List.range'_succ,List.map_cons,hcode]
  have hne : pre.length + 1 = (pre ++ [x]).length:=by simp
  cases x with
  | zero=>
   show cdK l (ofD (cnL (firstB (zs.map Int.ofNat)) q)) (fun r=>k (0 :: r)) = _
   rw [cdK_eq hz hF hn (pre:=pre ++ [0]) (q:=q) (by rw [he];simp) (fun j hj=>by
    have h1 : (0 == j) = false:=beq_eq_false_iff_ne.2 (by omega)
    rw [hq j hj,List.count_append,List.count_singleton,h1];rfl) (by simp;omega),← hne]
   rfl
  | succ m=>
   show fN (dg (ofD (cnL (firstB (zs.map Int.ofNat)) q)) (m + 1)) (fun c=>fN (Nat.add (ofD (cnL (firstB (zs.map Int.ofNat)) q)) (bitN (m + 1))) fun T=>cdK l T fun r=>k (c :: r)) = _
   have hb : ∀ i,i ≤ 12 → firstB (zs.map Int.ofNat) i + q.count i < 65536:=fun i hi=>by
    have h1:=hF i hi
    have h2:=List.count_le_length (a:=i) (l:=q)
    omega
   rw [fN_eq,fN_eq,cnL_get hx hb]
   ·have e2 : Nat.add (ofD (cnL (firstB (zs.map Int.ofNat)) q)) (bitN (m + 1)) = ofD (cnL (firstB (zs.map Int.ofNat)) (q ++ [m + 1])):=(cnL_snoc _ _ hx).symm
    rw [e2,cdK_eq hz hF hn (pre:=pre ++ [m + 1]) (q:=q ++ [m + 1]) (by rw [he];simp) (fun j hj=>by rw [List.count_append,List.count_append,hq j hj]) (by simp;omega),← hne,if_pos (Nat.succ_pos m),hq _ (Nat.succ_pos m)]
noncomputable def codesG (l : List Nat) (σ : Mem) : Rs:=okK (mayN l) (tabK l fun F _=>uK F fun _=>fN (pF F) fun T=>cdK l T fun c=>uK c fun cs=>fN (lnN l) fun n=>newK σ 40 cs fun id σ=>.mk (.val (.v (.lx id 1 0 n n))) e0 σ)
noncomputable def codesO (al : List AV) (σ : Mem) : Rs:=on1 al fun x=>inK σ x fun l=>codesG l σ
theorem codes_sound {f : Nat} (hf : ∀ (w : World) (v : Value) (zs : List Int),IRow w v zs → mayB zs = true → Does Tryz.prog f #[v] w fun r w'=>∃ b,r = .slice (some ⟨b,0,none⟩) zs.length zs.length ∧ w.heap.size ≤ b ∧ UB w' b (codesB zs) ∧ Ext w w') : OrcS f codesO:=fun w0 al σ a e' σ' ρ vs w h ha hM=>by
 obtain ⟨x,v,rfl,h1,h2⟩:=on1_inv val_ne ha h
 obtain ⟨l,h3,h4⟩:=inK_inv val_ne hM h1 h2
 obtain ⟨h5,h6⟩:=okK_inv (show okK (mayN l) _ = _ from h4) val_ne
 rw [mayN_eq] at h5
 obtain ⟨h7,h8,h9⟩:=tabK_inv val_ne h6
 obtain ⟨h10,h11⟩:=uK_inv val_ne h9
 rw [fN_eq,pF_eq] at h11
 have hF : ∀ i,i ≤ 12 → firstB (l.map Int.ofNat) i ≤ 60000:=fun i hi=>h10 _ (List.mem_map.2 ⟨i,List.mem_range.2 (by omega),rfl⟩)
 have e0 : (List.range 13).map (firstB (l.map Int.ofNat)) = cnL (firstB (l.map Int.ofNat)) []:=by
  unfold cnL
  exact List.map_congr_left fun j _=>by simp
 rw [e0,cdK_eq h7 hF h8 (l:=l) (pre:=[]) (q:=[]) rfl (fun _ _=>rfl) (Nat.le_refl _)] at h11
 obtain ⟨h12,h13⟩:=uK_inv val_ne h11
 rw [fN_eq,lnN_eq] at h13
 obtain ⟨ob,σ2,k1,k2,k3,k4,k5,k6,k7⟩:=newK_inv val_ne h13
 injection k7 with k8 _ k10
 injection k8 with k8
 subst k10
 refine Does.mono (hf w v _ h3 h5) fun val w' hh=>?_
 obtain ⟨b,rfl,hb,hU,hE⟩:=hh
 have hcs : (codesB (l.map Int.ofNat)).map (Value.int .u64) = ((List.range' 0 l.length).map (codeB (l.map Int.ofNat))).map fun x=>Value.int .u64 (Int.ofNat x):=by
  unfold codesB
  rw [List.map_map,List.map_map,List.length_map,List.range_eq_range']
  rfl
 have hU' : Blk w' b 40 ((((List.range' 0 l.length).map (codeB (l.map Int.ofNat))).map fun x=>Value.int .u64 (Int.ofNat x))).toArray:=by
  have:=hU
  unfold UB at this
  rwa [hcs] at this
 have hu:=u_rel ρ h12
 have hM2:=hM.more (S:=noneB) l.length 1 (by simp) k1 k2 (fun o ho=>by rw [k4 o];exact List.getElem?_eq_none (by omega)) (fun o x hx=>by
  rw [k4 o] at hx
  obtain ⟨v,q1,q2⟩:=hu.get o x hx
  exact ⟨v,by simpa using q1,q2⟩) k5 k6 (Blk.bk hU') hE (fun id o p s1 s2=>⟨by have:=hM.below id o p s1 s2;omega,fun hh=>hh⟩) (fun b hh=>hh.elim) (.inl (Nat.le_trans hM.old.size hb))
 refine ⟨_,Up.snoc ρ _,?_,hM2⟩
 rw [← k8]
 refine ⟨⟨b,l.length,1⟩,?_,Nat.le_refl _,by unfold maxLen;omega,by rw [List.length_map,Nat.zero_mul]⟩
 rw [← hM.len];simp
theorem codes_orc : OrcS 200 codesO:=codes_sound codes_does
end Rn
end Eng
end Go.Proofs.YtbpmlbjapapoaaaGreatDoor
namespace Go.Proofs.YtbpmlbjapapoaaaGreatDoor
open Go.RowKit
namespace Eng
namespace Rn
structure Eb where
 id : Nat
 e : TypeId
 d : Nat
 l : List SV
structure Me where
 n : Nat
 al : List AV
 l0 : List Eb
 v : AV
 n1 : Nat
 l1 : List Eb
noncomputable def lnS (l : List SV) : Nat:=List.rec (motive:=fun _=>Nat) 0 (fun _ _ ih=>Nat.add ih 1) l
theorem lnS_eq : ∀ l : List SV,lnS l = l.length
 | []=>rfl
 | _ :: l=>by
  show Nat.add (lnS l) 1 = _
  rw [lnS_eq l];rfl
noncomputable def ckE (σ : Mem) (x : Eb) (r : Rs) : Rs:=obK σ x.id fun ob=>okK (Nat.beq ob.e x.e) (rdT ob.d ob.m 0 (lnS x.l) fun l=>okK (lE x.l l) r)
noncomputable def ckL (σ : Mem) (l : List Eb) (r : Rs) : Rs:=List.rec (motive:=fun _=>Rs) r (fun x _ ih=>ckE σ x ih) l
noncomputable def seE (x : Eb) (h : Tr Ob) (c : Tr Ob → Rs) : Rs:=fN (lnS x.l) fun q=>fillT x.d 0 x.l .nil fun m=>setK dI x.id ⟨x.e,x.d,q,m⟩ h c
noncomputable def seL (l : List Eb) (h : Tr Ob) (c : Tr Ob → Rs) : Rs:=List.rec (motive:=fun _=>Tr Ob → (Tr Ob → Rs) → Rs) (fun h c=>c h) (fun x _ ih h c=>seE x h fun h=>ih h c) l h c
noncomputable def kiL (l : List Eb) (h : Tr Ob) (c : Tr Ob → Rs) : Rs:=List.rec (motive:=fun _=>Tr Ob → (Tr Ob → Rs) → Rs) (fun h c=>c h) (fun x _ ih h c=>setK dI x.id ⟨0,0,0,.nil⟩ h fun h=>ih h c) l h c
noncomputable def tvE (x y : TV) : Bool:=match x,y with
 | .v a,.v b=>sE a b
 | .g a,.g b=>lE a b
 | _,_=>false
noncomputable def tlE (a : List TV) : List TV → Bool:=List.rec (motive:=fun _=>List TV → Bool) (fun b=>match b with
 | []=>true
 | _ :: _=>false) (fun x _ ih b=>match b with
 | []=>false
 | y :: r=>an (tvE x y) (ih r)) a
noncomputable def avE (x y : AV) : Bool:=match x,y with
 | .v a,.v b=>sE a b
 | .g a,.g b=>lE a b
 | .t a,.t b=>tlE a b
 | .f g a,.f g' b=>an (Nat.beq g g') (lE a b)
 | _,_=>false
noncomputable def alE (a : List AV) : List AV → Bool:=List.rec (motive:=fun _=>List AV → Bool) (fun b=>match b with
 | []=>true
 | _ :: _=>false) (fun x _ ih b=>match b with
 | []=>false
 | y :: r=>an (avE x y) (ih r)) a
noncomputable def meO (m : Me) (al : List AV) (σ : Mem) : Rs:=okK (alE m.al al) (ckL σ m.l0 (kiL m.l0 σ.h fun h=>seL m.l1 h fun h=>.mk (.val m.v) e0 ⟨m.n1,h,[]⟩))
noncomputable def memoO (es : List Me) (al : List AV) (σ : Mem) : Rs:=List.rec (motive:=fun _=>Rs) .no (fun m _ ih=>ifK (Nat.beq m.n σ.n) (meO m al σ) ih) es
noncomputable def ranK (m : Me) (r : Rs) : Rs:=Rs.rec (motive:=fun _=>Rs) .no (fun x _ σ=>Ex.rec (motive:=fun _=>Rs) .no (fun _=>.no) (fun _=>.no) .no (fun v=>okK (avE m.v v) (okK (Nat.beq m.n1 σ.n) (ckL σ m.l1 (.mk .ret e0 σ)))) x) r
noncomputable def ranB (tab : List (Nat × Fe)) (N f : Nat) (m : Me) : Bool:=Rs.rec (motive:=fun _=>Bool) false (fun _ _ _=>true) (seL m.l0 .nil fun h=>ranK m (run tab N f m.al ⟨m.n,h,[]⟩))
theorem tvE_eq {x y : TV} (h : tvE x y = true) : x = y:=by
 cases x with
 | v a=>
  cases y with
  | v b=>have h : sE a b = true:=h;rw [sE_eq h]
  | g b=>cases h
 | g a=>
  cases y with
  | v b=>cases h
  | g b=>have h : lE a b = true:=h;rw [lE_eq h]
theorem tlE_eq : ∀ {a b : List TV},tlE a b = true → a = b
 | [],[],_=>rfl
 | [],_ :: _,h=>by cases h
 | _ :: _,[],h=>by cases h
 | x :: a,y :: b,h=>by
  obtain ⟨h1,h2⟩:=an_inv (show an (tvE x y) (tlE a b) = true from h)
  rw [tvE_eq h1,tlE_eq h2]
theorem avE_eq {x y : AV} (h : avE x y = true) : x = y:=by
 cases x with
 | v a=>
  cases y with
  | v b=>have h : sE a b = true:=h;rw [sE_eq h]
  | _=>cases h
 | g a=>
  cases y with
  | g b=>have h : lE a b = true:=h;rw [lE_eq h]
  | _=>cases h
 | t a=>
  cases y with
  | t b=>have h : tlE a b = true:=h;rw [tlE_eq h]
  | _=>cases h
 | f g a=>
  cases y with
  | f g' b=>
   obtain ⟨h1,h2⟩:=an_inv (show an (Nat.beq g g') (lE a b) = true from h)
   rw [Nat.eq_of_beq_eq_true h1,lE_eq h2]
  | _=>cases h
theorem alE_eq : ∀ {a b : List AV},alE a b = true → a = b
 | [],[],_=>rfl
 | [],_ :: _,h=>by cases h
 | _ :: _,[],h=>by cases h
 | x :: a,y :: b,h=>by
  obtain ⟨h1,h2⟩:=an_inv (show an (avE x y) (alE a b) = true from h)
  rw [avE_eq h1,alE_eq h2]
def Has (σ : Mem) (l : List Eb) : Prop:=∀ x ∈ l,∃ ob,oget σ x.id = some ob ∧ ob.e = x.e ∧ ∀ i,i < x.l.length → tget ob.d i ob.m = x.l[i]?
def IsB (x : Eb) (id : Nat) (ob : Ob) : Prop:=x.id = id ∧ ob.e = x.e ∧ ob.n = x.l.length ∧ ∀ o,tget ob.d o ob.m = x.l[o]?
section
variable {res : Rs} (hr : res ≠ .no)
include hr
theorem ckL_inv {σ : Mem} {r : Rs} : ∀ {l : List Eb},ckL σ l r = res → Has σ l ∧ r = res
 | [],h=>⟨fun x hx=>(by cases hx),h⟩
 | x :: l,h=>by
  obtain ⟨ob,h1,h⟩:=obK_inv hr (show obK σ x.id (fun ob=>okK (Nat.beq ob.e x.e) (rdT ob.d ob.m 0 (lnS x.l) fun l'=>okK (lE x.l l') (ckL σ l r))) = res from h)
  obtain ⟨h2,h⟩:=okK_inv h hr
  obtain ⟨l',h3,h4,h⟩:=rdT_inv hr h
  obtain ⟨h5,h⟩:=okK_inv h hr
  have h5:=lE_eq h5
  obtain ⟨h6,h7⟩:=ckL_inv h
  rw [lnS_eq] at h3 h4
  refine ⟨fun y hy=>?_,h7⟩
  rcases List.mem_cons.1 hy with rfl | hy
  ·exact ⟨ob,h1,Nat.eq_of_beq_eq_true h2,fun i hi=>by have:=h4 i hi;rw [Nat.zero_add] at this;rw [this,← h5]⟩
  ·exact h6 y hy
theorem seL_inv : ∀ {l : List Eb} {h : Tr Ob} {c : Tr Ob → Rs},seL l h c = res → ∃ h',c h' = res ∧ ∀ id ob,tget dI id h' = some ob → (∃ x ∈ l,IsB x id ob) ∨ ((∀ x ∈ l,x.id ≠ id) ∧ tget dI id h = some ob)
 | [],h,c,hh=>⟨h,hh,fun id ob ho=>.inr ⟨fun x hx=>(by cases hx),ho⟩⟩
 | x :: l,h,c,hh=>by
  have hh : fN (lnS x.l) (fun q=>fillT x.d 0 x.l .nil fun m=>setK dI x.id ⟨x.e,x.d,q,m⟩ h fun h=>seL l h c) = res:=hh
  rw [fN_eq,lnS_eq] at hh
  obtain ⟨m,h1,hh⟩:=fillT_inv hr hh
  obtain ⟨t',h2,hh⟩:=setK_inv hr hh
  obtain ⟨h',h3,h4⟩:=seL_inv hh
  refine ⟨h',h3,fun id ob ho=>?_⟩
  rcases h4 id ob ho with ⟨y,hy,h5⟩ | ⟨h5,h6⟩
  ·exact .inl ⟨y,List.mem_cons_of_mem _ hy,h5⟩
  ·by_cases hid : id = x.id
   ·subst hid
    rw [h2.1] at h6
    obtain rfl:=Option.some.inj h6
    refine .inl ⟨x,List.mem_cons_self,rfl,rfl,rfl,fun o=>?_⟩
    show tget x.d o m = _
    rw [h1 o,tget_nil]
    by_cases ho' : o < x.l.length
    ·rw [if_pos ⟨Nat.zero_le _,by omega⟩,Nat.sub_zero]
    ·rw [if_neg (fun hh=>ho' (by omega)),List.getElem?_eq_none (by omega)]
   ·refine .inr ⟨fun y hy=>?_,by rw [← h2.2 id hid];exact h6⟩
    rcases List.mem_cons.1 hy with rfl | hy
    ·exact fun e=>hid e.symm
    ·exact h5 y hy
theorem kiL_inv : ∀ {l : List Eb} {h : Tr Ob} {c : Tr Ob → Rs},kiL l h c = res → ∃ h',c h' = res ∧ ∀ id ob,tget dI id h' = some ob → ob.m = .nil ∨ ((∀ x ∈ l,x.id ≠ id) ∧ tget dI id h = some ob)
 | [],h,c,hh=>⟨h,hh,fun id ob ho=>.inr ⟨fun x hx=>(by cases hx),ho⟩⟩
 | x :: l,h,c,hh=>by
  obtain ⟨t',h2,hh⟩:=setK_inv hr (show setK dI x.id ⟨0,0,0,.nil⟩ h (fun h=>kiL l h c) = res from hh)
  obtain ⟨h',h3,h4⟩:=kiL_inv hh
  refine ⟨h',h3,fun id ob ho=>?_⟩
  rcases h4 id ob ho with h5 | ⟨h5,h6⟩
  ·exact .inl h5
  ·by_cases hid : id = x.id
   ·subst hid
    rw [h2.1] at h6
    obtain rfl:=Option.some.inj h6
    exact .inl rfl
   ·refine .inr ⟨fun y hy=>?_,by rw [← h2.2 id hid];exact h6⟩
    rcases List.mem_cons.1 hy with rfl | hy
    ·exact fun e=>hid e.symm
    ·exact h5 y hy
end
theorem me_sound {tab : List (Nat × Fe)} (ht : TabOK tab) {N f : Nat} {m : Me} (hm : ranB tab N f m = true) {w0 : Fm} {al : List AV} {σ σ' : Mem} {a : AV} {e' : En} {ρ : Pl} {vs : List Value} {w : World} (hn : m.n = σ.n) (hq : meO m al σ = .mk (.val a) e' σ') (ha : ARs ρ al vs) (hM : MR w0 ρ σ w) : Does Tryz.prog f vs.toArray w (fun val w'=>∃ ρ',Up ρ ρ' ∧ AR ρ' a val ∧ MR w0 ρ' σ' w'):=by
 obtain ⟨h1,h⟩:=okK_inv hq val_ne
 clear hq
 have h1:=alE_eq h1
 subst h1
 obtain ⟨h2,h⟩:=ckL_inv val_ne h
 obtain ⟨hk,h,h3⟩:=kiL_inv val_ne h
 obtain ⟨hs,h,h4⟩:=seL_inv val_ne h
 injection h with h5 _ h7
 injection h5 with h5
 subst h5;subst h7
 have hne : (seL m.l0 .nil fun h=>ranK m (run tab N f m.al ⟨m.n,h,[]⟩)) ≠ .no:=fun hh=>by
  unfold ranB at hm
  rw [hh] at hm;cases hm
 obtain ⟨hb,hrun,h8⟩:=seL_inv hne (l:=m.l0) (h:=.nil) (c:=fun h=>ranK m (run tab N f m.al ⟨m.n,h,[]⟩)) rfl
 have h8 : ∀ id ob,tget dI id hb = some ob → ∃ x ∈ m.l0,IsB x id ob:=fun id ob ho=>by
  rcases h8 id ob ho with hh | ⟨_,hh⟩
  ·exact hh
  ·rw [tget_nil] at hh;cases hh
 have hrn : ranK m (run tab N f m.al ⟨m.n,hb,[]⟩) ≠ .no:=fun hh=>hne (by rw [← hrun];exact hh)
 obtain ⟨v1,e1,σ1,hr1,hv1,hn1,hl1⟩ : ∃ v1 e1 σ1,run tab N f m.al ⟨m.n,hb,[]⟩ = .mk (.val v1) e1 σ1 ∧ m.v = v1 ∧ m.n1 = σ1.n ∧ Has σ1 m.l1:=by
  generalize hq : run tab N f m.al ⟨m.n,hb,[]⟩ = q at hrn
  cases q with
  | no=>exact absurd rfl hrn
  | mk x e1 σ1=>
   cases x with
   | val v1=>
    have g0 : okK (avE m.v v1) (okK (Nat.beq m.n1 σ1.n) (ckL σ1 m.l1 (.mk .ret e0 σ1))) ≠ .no:=hrn
    obtain ⟨g1,g⟩:=okK_inv rfl g0
    obtain ⟨g2,g⟩:=okK_inv g g0
    obtain ⟨g3,_⟩:=ckL_inv g0 g
    exact ⟨v1,e1,σ1,rfl,avE_eq g1,Nat.eq_of_beq_eq_true g2,g3⟩
   | _=>exact absurd rfl hrn
 subst hv1
 have hsub : ∀ id o x,cget ⟨m.n,hb,[]⟩ id o = some x → cget σ id o = some x ∧ ∃ y ∈ m.l0,y.id = id:=fun id o x hx=>by
  obtain ⟨ob,q1,q2⟩:=cget_iff.1 hx
  obtain ⟨y,hy,q3,_,_,q5⟩:=h8 id ob q1
  obtain ⟨ob2,q6,_,q8⟩:=h2 y hy
  rw [q5 o] at q2
  have hlt:=(List.getElem?_eq_some_iff.1 q2).1
  exact ⟨cget_iff.2 ⟨ob2,by rw [← q3];exact q6,by rw [q8 o hlt];exact q2⟩,y,hy,q3⟩
 have hin : ∀ y ∈ m.l0,∀ (i : Nat),i < y.l.length → (cget σ y.id i).isSome = true:=fun y hy i hi=>by
  obtain ⟨ob2,q6,_,q8⟩:=h2 y hy
  rw [cget_iff.2 ⟨ob2,q6,(q8 i hi).trans (List.getElem?_eq_getElem hi)⟩];rfl
 have hM0 : MR ⟨fun b=>∃ id o p,(cget ⟨m.n,hb,[]⟩ id o).isSome = true ∧ ρ[id]? = some p ∧ p.b = b,w⟩ ρ ⟨m.n,hb,[]⟩ w:={
  len:=by rw [hM.len];exact hn.symm
  blk:=fun id ob q1 q2=>by
   obtain ⟨o,q2⟩:=q2
   obtain ⟨x,hx⟩:=Option.isSome_iff_exists.1 q2
   obtain ⟨y,hy,q3,q4,_,q5⟩:=h8 id ob q1
   obtain ⟨ob2,q6,q7,q8⟩:=h2 y hy
   have hcell : ∀ o x,tget ob.d o ob.m = some x → tget ob2.d o ob2.m = some x:=fun o x hx=>by
    rw [q5 o] at hx
    rw [q8 o (List.getElem?_eq_some_iff.1 hx).1];exact hx
   obtain ⟨p,cs,r1,r2,r3,r4⟩:=hM.blk id ob2 (by rw [← q3];exact q6) ⟨o,by rw [hcell o x hx];rfl⟩
   exact ⟨p,cs,r1,by rw [q4,← q7];exact r2,r3,fun o x hx=>r4 o x (hcell o x hx)⟩
  old:=Fr.refl _ _
  far:=fun id o p q1 q2=>.inr ⟨id,o,p,q1,q2,rfl⟩
  pre:=fun id ob q1 o ho=>by
   obtain ⟨y,hy,_,_,q4,q5⟩:=h8 id ob q1
   rw [q5 o,List.getElem?_eq_none (by omega)]
  apart:=fun id id' o o' p p' hne q1 q2 q3 q4=>by
   obtain ⟨x,hx⟩:=Option.isSome_iff_exists.1 q1
   obtain ⟨x',hx'⟩:=Option.isSome_iff_exists.1 q2
   exact hM.apart id id' o o' p p' hne (by rw [(hsub id o x hx).1];rfl) (by rw [(hsub id' o' x' hx').1];rfl) q3 q4
  mps:=Mps.nil _ _ _ }
 refine Does.mono (run_sound ht N _ f m.al ⟨m.n,hb,[]⟩ _ e1 σ1 ρ vs w hr1 ha hM0) fun val w' hh=>?_
 obtain ⟨ρ',hu,hav,hM1⟩:=hh
 refine ⟨ρ',hu,hav,?_⟩
 have off : ∀ id o p,(cget σ id o).isSome = true → ρ[id]? = some p → (∀ x ∈ m.l0,x.id ≠ id) → ¬ ∃ id o p',(cget ⟨m.n,hb,[]⟩ id o).isSome = true ∧ ρ[id]? = some p' ∧ p'.b = p.b:=fun id o p q1 q2 q3=>by
  rintro ⟨id2,o2,p2,r1,r2,r3⟩
  obtain ⟨x,hx⟩:=Option.isSome_iff_exists.1 r1
  obtain ⟨r4,y,hy,r5⟩:=hsub id2 o2 x hx
  exact hM.apart id2 id o2 o p2 p (fun e=>q3 y hy (r5.trans e)) (by rw [r4];rfl) q1 r2 q2 r3
 have may1 : ∀ b,(Fm.mk (fun b=>∃ id o p,(cget ⟨m.n,hb,[]⟩ id o).isSome = true ∧ ρ[id]? = some p ∧ p.b = b) w).may b → w0.may b:=fun b hb'=>by
  rcases hb' with hb' | ⟨id,o,p,r1,r2,rfl⟩
  ·exact .inl (Nat.le_trans hM.old.size hb')
  ·obtain ⟨x,hx⟩:=Option.isSome_iff_exists.1 r1
   exact hM.far id o p (by rw [(hsub id o x hx).1];rfl) r2
 have cls : ∀ id ob,oget ⟨m.n1,hs,[]⟩ id = some ob → (∃ o,(tget ob.d o ob.m).isSome = true) → (∃ x ∈ m.l1,IsB x id ob) ∨ ((∀ x ∈ m.l0,x.id ≠ id) ∧ oget σ id = some ob):=fun id ob q1 q2=>by
  rcases h4 id ob q1 with hh | ⟨_,hh⟩
  ·exact .inl hh
  ·rcases h3 id ob hh with hh | hh
   ·obtain ⟨o,q2⟩:=q2
    rw [hh,tget_nil] at q2;cases q2
   ·exact .inr hh
 have one : ∀ x ∈ m.l1,∀ id ob,IsB x id ob → ∃ ob1,oget σ1 id = some ob1 ∧ ob1.e = ob.e ∧ ∀ o y,tget ob.d o ob.m = some y → tget ob1.d o ob1.m = some y:=fun x hx id ob hi=>by
  obtain ⟨i1,i2,_,i4⟩:=hi
  obtain ⟨ob1,r1,r2,r3⟩:=hl1 x hx
  refine ⟨ob1,by rw [← i1];exact r1,by rw [r2,i2],fun o y hy=>?_⟩
  rw [i4 o] at hy
  rw [r3 o (List.getElem?_eq_some_iff.1 hy).1];exact hy
 have cell : ∀ id o,(cget ⟨m.n1,hs,[]⟩ id o).isSome = true → (cget σ1 id o).isSome = true ∨ ((∀ x ∈ m.l0,x.id ≠ id) ∧ (cget σ id o).isSome = true):=fun id o q=>by
  obtain ⟨y,hy⟩:=Option.isSome_iff_exists.1 q
  obtain ⟨ob,q1,q2⟩:=cget_iff.1 hy
  rcases cls id ob q1 ⟨o,by rw [q2];rfl⟩ with ⟨x,hx,hi⟩ | ⟨r1,r2⟩
  ·obtain ⟨ob1,r1,_,r3⟩:=one x hx id ob hi
   exact .inl (by rw [cget_iff.2 ⟨ob1,r1,r3 o y q2⟩];rfl)
  ·exact .inr ⟨r1,by rw [cget_iff.2 ⟨ob,r2,q2⟩];rfl⟩
 have old : ∀ id o p,(cget σ id o).isSome = true → ρ'[id]? = some p → ρ[id]? = some p:=fun id o p q1 q2=>by
  obtain ⟨y,hy⟩:=Option.isSome_iff_exists.1 q1
  obtain ⟨p0,_,_,_,r1,_⟩:=hM.at_ hy
  have:=hu _ _ r1
  rw [q2] at this
  rw [r1,Option.some.inj this]
 exact {
  len:=hM1.len.trans hn1.symm
  blk:=fun id ob q1 q2=>by
   rcases cls id ob q1 q2 with ⟨x,hx,hi⟩ | ⟨r1,r2⟩
   ·obtain ⟨ob1,r1,r2,r3⟩:=one x hx id ob hi
    obtain ⟨o,q2⟩:=q2
    obtain ⟨y,hy⟩:=Option.isSome_iff_exists.1 q2
    obtain ⟨p,cs,s1,s2,s3,s4⟩:=hM1.blk id ob1 r1 ⟨o,by rw [r3 o y hy];rfl⟩
    exact ⟨p,cs,s1,by rw [← r2];exact s2,s3,fun o y hy=>s4 o y (r3 o y hy)⟩
   ·obtain ⟨p,cs,s1,s2,s3,s4⟩:=hM.blk id ob r2 q2
    obtain ⟨o,q2⟩:=q2
    obtain ⟨y,hy⟩:=Option.isSome_iff_exists.1 q2
    refine ⟨p,cs,hu _ _ s1,s2.fr hM1.old (off id o p (by rw [cget_iff.2 ⟨ob,r2,hy⟩];rfl) s1 r1),s3,fun o y hy=>?_⟩
    obtain ⟨v,t1,t2⟩:=s4 o y hy
    exact ⟨v,t1,t2.up hu⟩
  old:=hM.old.trans hM1.old fun j hj hS=>by
   rcases may1 j (.inr hS) with hh | hh
   ·have hh : w0.w.heap.size ≤ j:=hh
    omega
   ·exact hh
  far:=fun id o p q1 q2=>by
   rcases cell id o q1 with hh | ⟨_,hh⟩
   ·exact may1 _ (hM1.far id o p hh q2)
   ·exact hM.far id o p hh (old id o p hh q2)
  pre:=fun id ob q1 o ho=>by
   cases hq : tget ob.d o ob.m with
   | none=>rfl
   | some y=>
    rcases cls id ob q1 ⟨o,by rw [hq];rfl⟩ with ⟨x,hx,_,_,i3,i4⟩ | ⟨_,r2⟩
    ·rw [i4 o,List.getElem?_eq_none (by omega)] at hq;cases hq
    ·rw [hM.pre id ob r2 o ho] at hq;cases hq
  apart:=fun id id' o o' p p' hne q1 q2 q3 q4=>by
   have mix : ∀ id id' o o' p p',(cget σ1 id o).isSome = true → ρ'[id]? = some p → (∀ x ∈ m.l0,x.id ≠ id') → (cget σ id' o').isSome = true → ρ'[id']? = some p' → p.b ≠ p'.b:=fun id id' o o' p p' r1 r2 r3 r4 r5=>by
    have r6:=old id' o' p' r4 r5
    rcases hM1.far id o p r1 r2 with hh | hh
    ·have hh : w.heap.size ≤ p.b:=hh
     have:=hM.below id' o' p' r4 r6
     omega
    ·intro e
     refine off id' o' p' r4 r6 r3 ?_
     rw [← e];exact hh
   rcases cell id o q1 with hh | ⟨g1,hh⟩
   ·rcases cell id' o' q2 with hh' | ⟨g1',hh'⟩
    ·exact hM1.apart id id' o o' p p' hne hh hh' q3 q4
    ·exact mix id id' o o' p p' hh q3 g1' hh' q4
   ·rcases cell id' o' q2 with hh' | ⟨g1',hh'⟩
    ·exact (mix id' id o' o p' p hh' q4 g1 hh q3).symm
    ·exact hM.apart id id' o o' p p' hne hh hh' (old id o p hh q3) (old id' o' p' hh' q4)
  mps:=Mps.nil _ _ _ }
theorem memo_orc {tab : List (Nat × Fe)} (ht : TabOK tab) {N f : Nat} : ∀ {es : List Me},(∀ m ∈ es,ranB tab N f m = true) → OrcS f (memoO es)
 | [],_=>fun w0 al σ a e' σ' ρ vs w h ha hM=>by cases h
 | m :: es,hm=>fun w0 al σ a e' σ' ρ vs w h ha hM=>by
  have h : ifK (Nat.beq m.n σ.n) (meO m al σ) (memoO es al σ) = .mk (.val a) e' σ':=h
  rw [ifK_eq] at h
  split at h
  ·rename_i hb
   exact me_sound ht (hm m List.mem_cons_self) (Nat.eq_of_beq_eq_true hb) h ha hM
  ·exact memo_orc ht (fun m' hm'=>hm m' (List.mem_cons_of_mem _ hm')) w0 al σ a e' σ' ρ vs w h ha hM
def RanL (tab : List (Nat × Fe)) (N f : Nat) : List Me → Prop
 | []=>True
 | m :: es=>ranB tab N f m = true ∧ RanL tab N f es
theorem memo_all {tab : List (Nat × Fe)} (ht : TabOK tab) {N f : Nat} {es : List Me} (h : RanL tab N f es) : OrcS f (memoO es):=memo_orc ht (by
 induction es with
 | nil=>intro m hm;cases hm
 | cons x es ih=>
  intro m hm
  rcases List.mem_cons.1 hm with rfl | hm
  ·exact h.1
  ·exact ih h.2 m hm)
theorem tok_nil : TabOK []:=fun x hx=>by cases hx
theorem tok_cons {f : Nat} {x : Fe} {l : List (Nat × Fe)} (h : FeOK f x) (t : TabOK l) : TabOK ((f,x) :: l):=fun y hy=>by
 rcases List.mem_cons.1 hy with rfl | hy
 ·exact h
 ·exact t y hy
noncomputable def nv (k : IntKind) (l : List Nat) : List SV:=List.rec (motive:=fun _=>List SV) [] (fun x _ ih=>.n k x :: ih) l
end Rn
end Eng
end Go.Proofs.YtbpmlbjapapoaaaGreatDoor
namespace Go.Proofs.YtbpmlbjapapoaaaGreatDoor.Eng
open Go.RowKit
section
open Go.ChangeShapes Go.WideShapes Go.ChangeAt Go.RowKit
theorem own_ : ownKnob Tryz.prog.godebug = none:=by kernel_rfl
theorem laid_ : laidOutB Tryz.prog = true:=by kernel_rfl
section
variable {H : Type} {enc : TypeId × Value → H}
theorem trodAll_ext {P : Program} (hlo : laidOutB P = true) {W W' : World} (hb : Below W.heap.size W W') : ∀ {ts : List TypeId} {vs : List Value} {ds : List (DataW H)} {ps : List MemPlace},(ts.all fun t=>P.readableRec t && decide (t < P.types.size)) = true →
  DataW.TrodAll enc P W 0 (fun _=>true) true ts vs ds ps → (∀ x ∈ ps,x.block < W.heap.size) → ∀ sp : Nat → Bool,(∀ p ∈ ps,sp p.block = true) → DataW.TrodAll enc P W' 0 sp true ts vs ds ps
 | [],[],[],_,_,h,_,_,_=>h
 | [],_ :: _,_,_,_,h,_,_,_=>h.elim
 | [],[],_ :: _,_,_,h,_,_,_=>h.elim
 | _ :: _,[],_,_,_,h,_,_,_=>h.elim
 | _ :: _,_ :: _,[],_,_,h,_,_,_=>h.elim
 | t :: ts,v :: vs,d :: ds,ps,hr,h,hlt,sp,hsp=>by
  obtain ⟨p,q,h1,h2,rfl⟩:=h
  simp only [List.all_cons,Bool.and_eq_true,decide_eq_true_eq] at hr
  exact ⟨p,q,WideElems.Trod_stays hlo hr.1.1 hr.1.2 h1 (fun x hx=>hb.same (hlt x (by simp [hx]))) (fun x hx=>hsp x (by simp [hx])),
   trodAll_ext hlo hb hr.2 h2 (fun x hx=>hlt x (by simp [hx])) sp (fun x hx=>hsp x (by simp [hx])),rfl⟩
theorem post_law {f : Func} {s : ChangeSpec} {apart fresh handsOn again : Bool} {W W' : World} {args : Array Value} {ds gs : List (DataW H)} {before : List MemPlace}
  (hvs : s.vars = []) (hfn : s.fn H (ds ++ gs) = { results:=[.lit (.bool true)],args:=ds }) (hr : f.resultTypes = #[4]) (hrd : (f.params.toList.all fun t=>Tryz.prog.readableRec t && decide (t < Tryz.prog.types.size)) = true)
  (hW : DataW.Whole enc Tryz.prog f.params.toList s.vars apart W args.toList ds gs before) (hE : Ext W W') : s.post enc Tryz.prog f apart fresh handsOn again W args (.bool true) W':=by
 have hb:=hE.below
 have hlt : ∀ p ∈ before,p.block < W.heap.size:=fun p hp=>hW.lt p hp
 have hold : ∀ p ∈ before,(fun b=>decide (b < W.heap.size)) p.block = true:=fun p hp=>by simpa using hlt p hp
 have hW':=hW
 obtain ⟨pa,pv,hA,hV,hps,hz,hn⟩:=hW
 rw [hvs] at hV
 have hvars : gs = [] ∧ pv = []:=by
  cases gs with
  | nil=>exact ⟨rfl,hV⟩
  | cons g gs=>exact hV.elim
 obtain ⟨rfl,rfl⟩:=hvars
 rw [List.append_nil] at hps
 subst hps
 have hargs : ∀ sp : Nat → Bool,(∀ p ∈ before,sp p.block = true) → DataW.TrodAll enc Tryz.prog W' 0 sp true f.params.toList args.toList (s.fn H (ds ++ [])).args before:=fun sp hsp=>by
  rw [hfn];exact trodAll_ext laid_ hb hrd hA hlt sp hsp
 have hres : ∀ (b : Nat) (sp : Nat → Bool) (hd : Bool),DataW.TrodAll enc Tryz.prog W' b sp hd f.resultTypes.toList ((Value.bool true).resultList f.resultTypes.size) (s.fn H (ds ++ [])).results []:=fun b sp hd=>by
  rw [hfn,hr];exact trodAll_mk1 (shut_bool Tryz.underlying4 _)
 have hvr : ∀ sp : Nat → Bool,DataW.TrodVars enc Tryz.prog W' sp s.vars (s.fn H (ds ++ [])).vars []:=fun sp=>by
  rw [hfn,hvs];rfl
 have hok : ∀ (j : Nat) (t : TypeId) (r : Value),f.resultTypes[j]? = some t → ((Value.bool true).resultList f.resultTypes.size)[j]? = some r → Value.okWide Tryz.prog W' .any 0 t r:=ok_one hr rfl (okWide_bool_mk Tryz.underlying4 _)
 refine ⟨ds,[],before,[],before,[],hW',hres _ _ _,hargs _ hold,hvr _,World.keptBut_mono (fun p hp=>⟨hp,.inr (.inl hp)⟩) (hb.frame (· ∈ before)),fun _=>?_⟩
 refine ⟨hok,_,_,([] ++ before) ++ [],⟨[] ++ before,[],trodAll_append (hargs _ (fun _ _=>rfl)) (hres _ _ _),hvr _,rfl,?_,?_⟩,?_⟩
 ·intro b off hp
  have hin : MemPlace.cell b off ∈ before:=by simpa using hp
  rw [hb.frozen (hlt _ hin)]
  exact hz b off hin
 ·intro ha
  have:=hn ha
  simpa using this
 ·intro p hp _
  simpa using hp
theorem irow_of {P : Program} {W : World} {t e : TypeId} {k : IntKind} {v : Value} {d : DataW H} {p : List MemPlace} (ht : P.underlying t = some (.slice e)) (he : P.underlying e = some (.int k)) (hc : P.cellsOf e = 1) {base : Nat} (hval : Value.okWide P W .any base t v)
  (h : DataW.Trod enc P W 0 (fun _=>true) true t v d p) : ∃ zs : List Int,Row W v zs.length (zs.map (Value.int k)) ∧ ∀ z ∈ zs,(Lit.int k z).wf = true:=by
 obtain ⟨a0,len,cap,rfl⟩:=okWide_slice ht hval
 obtain ⟨fuel,hf⟩:=h
 rcases open_ints ht he hc hf with ⟨hcs,hx⟩ | ⟨a,len',cap',zs,hcs,_,hl,hm,hz,hx,hcell,hwz⟩
 ·simp only [Value.cells,List.cons.injEq,and_true] at hcs
  injection hcs with e1 e2 e3
  subst e1;subst e2;subst e3
  exact ⟨[],⟨none,0,rfl,Nat.le_refl _,by unfold maxLen;omega,fun h=>absurd h (by simp)⟩,fun z hz=>by cases hz⟩
 ·simp only [Value.cells,List.cons.injEq,and_true] at hcs
  injection hcs with e1 e2 e3
  subst e1;subst e2;subst e3
  simp only [if_true] at hz
  have hlen : (zs.take len).length = len:=by rw [List.length_take];omega
  refine ⟨zs.take len,⟨some a,cap,by rw [hlen],by rw [hlen];exact hl,hm,fun hp=>?_⟩,fun z hz=>hwz z (List.mem_of_mem_take hz)⟩
  rw [hlen] at hp
  obtain ⟨b,off,spot⟩:=a
  have hspot : spot = none:=by simpa [Addr.add] using World.cell?_spot (hcell 0 (by omega))
  subst hspot
  have hcell' : ∀ j,j < zs.length → W.cell? ⟨b,off + j,none⟩ = some (.int k (zs.getD j 0)):=fun j hj=>by rw [← Go.WideShapes.add_plain];exact hcell j hj
  refine ⟨b,off,rfl,World.block_lt_of_cell? W _ (hcell' 0 (by omega)),fun j u hu=>?_⟩
  rw [List.getElem?_map] at hu
  cases hj : (zs.take len)[j]? with
  | none=>rw [hj] at hu;cases hu
  | some z=>
   rw [hj] at hu
   injection hu with hu
   subst hu
   have hjl : j < len:=by
    have:=(List.getElem?_eq_some_iff.1 hj).1
    omega
   rw [List.getElem?_take_of_lt hjl] at hj
   rw [hcell' j (by omega),List.getD_eq_getElem?_getD,hj];rfl
end
end
end Go.Proofs.YtbpmlbjapapoaaaGreatDoor.Eng
