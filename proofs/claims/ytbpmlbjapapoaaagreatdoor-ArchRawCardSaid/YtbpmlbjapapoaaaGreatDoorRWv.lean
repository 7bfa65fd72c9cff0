/-
  Parts of the proof: Wv.
-/
import Derived.Test.YtbpmlbjapapoaaaGreatDoorRB4
import Derived.Test.YtbpmlbjapapoaaaGreatDoorRWl
set_option maxRecDepth 100000
set_option maxHeartbeats 64000000
namespace Go.Proofs.YtbpmlbjapapoaaaGreatDoor.Eng
open Go.RowKit
section
end
section
def alikeT (a b : Tre) : Bool:=decide (a.es = b.es) && decide (a.ns = b.ns)
theorem alike_does (w : World) (ve vn ve' vn' : Value) (l l' : List NdV) (a b : Tre) (ha : TrV w ve vn l a) (hb : TrV w ve' vn' l' b) : Does Tryz.prog 12 #[.agg #[ve,vn],.agg #[ve',vn']] w fun r w'=>r = .bool (alikeT a b) ∧ Ext w w':=by
 refine does2 Tryz.func12 rfl (by kernel_rfl) ?_
 obtain ⟨A,c,rfl,hc1,hc2,hA⟩:=ha.e.op enC_len
 obtain ⟨A',c',rfl,hc1',hc2',hA'⟩:=hb.e.op enC_len
 obtain ⟨N,d,rfl,hd1,hd2,hN⟩:=ha.n.op ndC_len
 obtain ⟨N',d',rfl,hd1',hd2',hN'⟩:=hb.n.op ndC_len
 have la:=ha.len
 have lb:=hb.len
 unfold alikeT
 refine goL ?_
 refine xbox rfl (fun w1 hB1 hE1 hs1=>?_)
 have i0 : w1.cell? ⟨w.heap.size,0,none⟩ = some (.slice A a.es.length c):=Blk.cell hB1 0
 have i1 : w1.cell? ⟨w.heap.size,1,none⟩ = some (.slice N l.length d):=Blk.cell hB1 1
 refine goL ?_
 refine xbox rfl (fun w2 hB2 hE2 hs2=>?_)
 have k0 : w2.cell? ⟨w.heap.size,0,none⟩ = some (.slice A a.es.length c):=hE2.cell i0
 have k1 : w2.cell? ⟨w.heap.size,1,none⟩ = some (.slice N l.length d):=hE2.cell i1
 have k2 : w2.cell? ⟨w1.heap.size,0,none⟩ = some (.slice A' b.es.length c'):=Blk.cell hB2 0
 have k3 : w2.cell? ⟨w1.heap.size,1,none⟩ = some (.slice N' l'.length d'):=Blk.cell hB2 1
 have hE02 : Ext w w2:=hE1.t hE2
 by_cases h1 : a.es.length = b.es.length
 case neg=>
  rw [decide_eq_false (p:=a.es = b.es) (fun e=>h1 (by rw [e])),Bool.false_and]
  exact y13
 by_cases h2 : l.length = l'.length
 case neg=>
  rw [decide_eq_false (p:=a.ns = b.ns) (fun e=>h2 (by rw [la,lb,e])),Bool.and_false]
  exact y13
 refine goL ?_
 refine tloop (α:=Nat) (fun i=>[(2,.pointer (some ⟨w.heap.size,0,none⟩)),(3,.pointer (some ⟨w1.heap.size,0,none⟩)),(5,.int .i64 (i : Int))]) (fun i w'=>Ext w2 w' ∧ i ≤ a.es.length ∧ decide (a.es.drop i = b.es.drop i) = decide (a.es = b.es)) (fun i=>a.es.length - i) 0 (sub ⟨rfl,rfl,rfl⟩) ⟨Fr.refl _ _,Nat.zero_le _,rfl⟩ ?_
 rintro i w3 ⟨hE,hi0,hgo⟩
 have j0 : w3.cell? ⟨w.heap.size,0,none⟩ = some (.slice A a.es.length c):=hE.cell k0
 by_cases hlt : i < a.es.length
 ·obtain ⟨p,o,x,rfl,_,hx,hdr,hcell⟩:=hA.at_ hlt
  obtain ⟨p',o',y,rfl,_,hy,hdr',hcell'⟩:=hA'.at_ (i:=i) (by omega)
  rw [hdr,hdr'] at hgo
  have hEd : Ext w2 w3.drew:=hE.d
  have m0 : w3.drew.cell? ⟨w.heap.size,0,none⟩ = some (.slice (some ⟨p,o,none⟩) a.es.length c):=hEd.cell k0
  have m2 : w3.drew.cell? ⟨w1.heap.size,0,none⟩ = some (.slice (some ⟨p',o',none⟩) b.es.length c'):=hEd.cell k2
  have hEw : Ext w w3.drew:=hE02.t hEd
  repeat' (first | refine xizq i (o + i * 2) rfl rfl rfl rfl rfl hlt ?_ | refine xizq i (o' + i * 2) rfl rfl rfl rfl rfl (by omega) ?_ | refine xldz (cs:=enC x) (o:=o + i * 2) (b:=p) rfl (by kernel_rfl) (fun j u hu=>hEw.cell (hcell j u hu)) ?_ | refine xldz (cs:=enC y) (o:=o' + i * 2) (b:=p') rfl (by kernel_rfl) (fun j u hu=>hEw.cell (hcell' j u hu)) ?_ | refine xstne (cs:=enC x) (ds:=enC y) rfl rfl (eq_en x y) ?_ | refine go1L ?_ | fail)
  by_cases e : x = y
  ·rw [decide_eq_true e]
   have hgo : decide (a.es.drop (i + 1) = b.es.drop (i + 1)) = decide (a.es = b.es):=by rw [← hgo,e];simp
   refine goL ?_
   exact tfin ⟨i + 1,sub ⟨rfl,rfl,rfl⟩,⟨hEd,by omega,hgo⟩,(by show a.es.length - (i + 1) < a.es.length - i;omega)⟩
  ·rw [decide_eq_false e]
   rw [decide_eq_false (by simp [e])] at hgo
   rw [← hgo]
   refine goL ?_
   exact tret1 rfl rfl ⟨by simp,hEw⟩
 ·obtain rfl : i = a.es.length:=by omega
  rw [List.drop_length,h1,List.drop_length] at hgo
  rw [← hgo]
  refine goL ?_
  refine tloop (α:=Nat) (fun i=>[(2,.pointer (some ⟨w.heap.size,0,none⟩)),(3,.pointer (some ⟨w1.heap.size,0,none⟩)),(6,.int .i64 (i : Int))]) (fun i w'=>Ext w2 w' ∧ i ≤ l.length ∧ decide ((l.drop i).map (·.n) = (l'.drop i).map (·.n)) = decide (a.ns = b.ns)) (fun i=>l.length - i) 0 (sub ⟨rfl,rfl,rfl⟩) ⟨hE,Nat.zero_le _,by rw [List.drop_zero,List.drop_zero,ha.m,hb.m]⟩ ?_
  clear hgo hE hi0 j0 hlt w3
  rintro i w3 ⟨hE,hi0,hgo⟩
  have j1 : w3.cell? ⟨w.heap.size,1,none⟩ = some (.slice N l.length d):=hE.cell k1
  by_cases hlt : i < l.length
  ·obtain ⟨p,o,x,rfl,_,hx,hdr,hcell⟩:=hN.at_ hlt
   obtain ⟨p',o',y,rfl,_,hy,hdr',hcell'⟩:=hN'.at_ (i:=i) (by omega)
   rw [hdr,hdr',List.map_cons,List.map_cons] at hgo
   have hEd : Ext w2 w3.drew:=hE.d
   have m0 : w3.drew.cell? ⟨w.heap.size,1,none⟩ = some (.slice (some ⟨p,o,none⟩) l.length d):=hEd.cell k1
   have m2 : w3.drew.cell? ⟨w1.heap.size,1,none⟩ = some (.slice (some ⟨p',o',none⟩) l'.length d'):=hEd.cell k3
   have hEw : Ext w w3.drew:=hE02.t hEd
   repeat' (first | refine xizq i (o + i * 12) rfl rfl rfl rfl rfl hlt ?_ | refine xizq i (o' + i * 12) rfl rfl rfl rfl rfl (by omega) ?_ | refine xldz (cs:=ndC x) (o:=o + i * 12) (b:=p) rfl (by kernel_rfl) (fun j u hu=>hEw.cell (hcell j u hu)) ?_ | refine xldz (cs:=ndC y) (o:=o' + i * 12) (b:=p') rfl (by kernel_rfl) (fun j u hu=>hEw.cell (hcell' j u hu)) ?_ | refine go1L ?_ | fail)
   refine xcallE rfl rfl (rsame_does w3.drew x y ((ha.i x (List.mem_of_getElem? hx)).ext hEw) ((hb.i y (List.mem_of_getElem? hy)).ext hEw)) (fun r w4 h4=>?_)
   obtain ⟨rfl,hE4⟩:=h4
   have hE24 : Ext w2 w4:=hEd.t hE4
   by_cases e : x.n = y.n
   ·rw [decide_eq_true e]
    have hgo : decide ((l.drop (i + 1)).map (·.n) = (l'.drop (i + 1)).map (·.n)) = decide (a.ns = b.ns):=by rw [← hgo,e];simp
    refine goL ?_
    exact tfin ⟨i + 1,sub ⟨rfl,rfl,rfl⟩,⟨hE24,by omega,hgo⟩,(by show l.length - (i + 1) < l.length - i;omega)⟩
   ·rw [decide_eq_false e]
    rw [decide_eq_false (by simp [e])] at hgo
    rw [← hgo]
    refine goL ?_
    exact tret1 rfl rfl ⟨by simp,hE02.t hE24⟩
  ·obtain rfl : i = l.length:=by omega
   rw [List.drop_length,h2,List.drop_length] at hgo
   rw [← hgo]
   refine goL ?_
   exact tret1 rfl rfl ⟨by simp,hE02.t hE⟩
end
end Go.Proofs.YtbpmlbjapapoaaaGreatDoor.Eng
