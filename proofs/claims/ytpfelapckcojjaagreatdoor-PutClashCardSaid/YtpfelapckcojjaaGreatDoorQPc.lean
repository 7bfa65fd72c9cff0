/-
  Parts of the proof: Pc.
-/
import Derived.Test.YtpfelapckcojjaaGreatDoorQB0a
import Derived.Test.YtpfelapckcojjaaGreatDoorQB3
set_option maxRecDepth 100000
set_option maxHeartbeats 64000000
namespace Go.Proofs.YtpfelapckcojjaaGreatDoor
open Go.RowKit
namespace Eng
namespace Rn
set_option maxRecDepth 100000
noncomputable def PN : List (List Nat) := [[97], [98], [122, 122]]
noncomputable def restP : Code := match Tryz.f3.body with
 | some (.seq _ (.seq _ c)) => c
 | _ => .skip
noncomputable def tabC : List (Nat × Fe) := [(33, .code Tryz.f33 7340055), (43, .code Tryz.f43 987), (48, .code Tryz.f48 8007), (53, .code Tryz.f53 1999), (54, .code Tryz.f54 55), (76, .code Tryz.f76 114867), (77, .code Tryz.f77 943), (80, .code Tryz.f80 3), (83, .code Tryz.f83 7), (84, .code Tryz.f84 1015), (85, .code Tryz.f85 503), (86, .code Tryz.f86 243), (87, .code Tryz.f87 15), (88, .code Tryz.f88 19), (91, .code Tryz.f91 4047), (92, .code Tryz.f92 359), (101, .code Tryz.f101 1991), (102, .code Tryz.f102 61), (103, .code Tryz.f103 31), (132, .code Tryz.f132 1023), (140, .code Tryz.f140 5), (141, .code Tryz.f141 5), (142, .code Tryz.f142 5), (143, .code Tryz.f143 19), (145, .code Tryz.f145 3), (147, .code Tryz.f147 33553439), (148, .code Tryz.f148 13), (149, .code Tryz.f149 435), (150, .code Tryz.f150 199), (152, .code Tryz.f152 1991), (153, .code Tryz.f153 63), (154, .code Tryz.f154 2219471747933902261149335252943), (155, .code Tryz.f155 31), (156, .code Tryz.f156 1879049079), (167, .code Tryz.f167 15), (202, .code Tryz.f202 31), (203, .code Tryz.f203 463), (209, .code Tryz.f209 5), (210, .code Tryz.f210 5), (211, .code Tryz.f211 13), (212, .code Tryz.f212 3103), (214, .code Tryz.f214 5), (215, .code Tryz.f215 7), (216, .code Tryz.f216 7), (217, .code Tryz.f217 240518184685), (218, .code Tryz.f218 1875), (220, .code Tryz.f220 31), (225, .code Tryz.f225 115), (226, .code Tryz.f226 31), (242, .code Tryz.f242 5), (254, .code Tryz.f254 19), (259, .code Tryz.f259 1039), (261, .code Tryz.f261 19), (262, .code Tryz.f262 19), (271, .code Tryz.f271 5), (272, .code Tryz.f272 5), (273, .code Tryz.f273 19), (297, .code Tryz.f297 2096159), (300, .code Tryz.f300 7951), (301, .code Tryz.f301 7943), (302, .code Tryz.f302 36028797018996495), (303, .code Tryz.f303 775), (304, .code Tryz.f304 7951), (305, .code Tryz.f305 7199), (306, .code Tryz.f306 15391), (310, .code Tryz.f310 7951), (311, .code Tryz.f311 7943), (312, .code Tryz.f312 36028797018996495), (313, .code Tryz.f313 775), (314, .code Tryz.f314 7951), (315, .code Tryz.f315 7199), (316, .code Tryz.f316 15391), (317, .code Tryz.f317 5), (318, .code Tryz.f318 5), (338, .code Tryz.f338 783), (339, .code Tryz.f339 7951), (340, .code Tryz.f340 7943), (341, .code Tryz.f341 36028797018996495), (342, .code Tryz.f342 775), (343, .code Tryz.f343 7951), (344, .code Tryz.f344 7199), (345, .code Tryz.f345 15391), (346, .code Tryz.f346 3103), (347, .code Tryz.f347 5), (348, .code Tryz.f348 5), (349, .code Tryz.f349 271), (350, .code Tryz.f350 4159), (351, .code Tryz.f351 3103), (352, .code Tryz.f352 271), (353, .code Tryz.f353 4159), (379, .code Tryz.f379 3103), (380, .code Tryz.f380 271), (381, .code Tryz.f381 4159), (382, .code Tryz.f382 3103), (383, .code Tryz.f383 3103), (417, .code Tryz.f417 3103)] ++ tabR
theorem tabC_ok : TabOK tabC := tok_cons Tryz.func33 <| tok_cons Tryz.func43 <| tok_cons Tryz.func48 <| tok_cons Tryz.func53 <| tok_cons Tryz.func54 <| tok_cons Tryz.func76 <| tok_cons Tryz.func77 <| tok_cons Tryz.func80 <| tok_cons Tryz.func83 <| tok_cons Tryz.func84 <| tok_cons Tryz.func85 <| tok_cons Tryz.func86 <| tok_cons Tryz.func87 <| tok_cons Tryz.func88 <| tok_cons Tryz.func91 <| tok_cons Tryz.func92 <| tok_cons Tryz.func101 <| tok_cons Tryz.func102 <| tok_cons Tryz.func103 <| tok_cons Tryz.func132 <| tok_cons Tryz.func140 <| tok_cons Tryz.func141 <| tok_cons Tryz.func142 <| tok_cons Tryz.func143 <| tok_cons Tryz.func145 <| tok_cons Tryz.func147 <| tok_cons Tryz.func148 <| tok_cons Tryz.func149 <| tok_cons Tryz.func150 <| tok_cons Tryz.func152 <| tok_cons Tryz.func153 <| tok_cons Tryz.func154 <| tok_cons Tryz.func155 <| tok_cons Tryz.func156 <| tok_cons Tryz.func167 <| tok_cons Tryz.func202 <| tok_cons Tryz.func203 <| tok_cons Tryz.func209 <| tok_cons Tryz.func210 <| tok_cons Tryz.func211 <| tok_cons Tryz.func212 <| tok_cons Tryz.func214 <| tok_cons Tryz.func215 <| tok_cons Tryz.func216 <| tok_cons Tryz.func217 <| tok_cons Tryz.func218 <| tok_cons Tryz.func220 <| tok_cons Tryz.func225 <| tok_cons Tryz.func226 <| tok_cons Tryz.func242 <| tok_cons Tryz.func254 <| tok_cons Tryz.func259 <| tok_cons Tryz.func261 <| tok_cons Tryz.func262 <| tok_cons Tryz.func271 <| tok_cons Tryz.func272 <| tok_cons Tryz.func273 <| tok_cons Tryz.func297 <| tok_cons Tryz.func300 <| tok_cons Tryz.func301 <| tok_cons Tryz.func302 <| tok_cons Tryz.func303 <| tok_cons Tryz.func304 <| tok_cons Tryz.func305 <| tok_cons Tryz.func306 <| tok_cons Tryz.func310 <| tok_cons Tryz.func311 <| tok_cons Tryz.func312 <| tok_cons Tryz.func313 <| tok_cons Tryz.func314 <| tok_cons Tryz.func315 <| tok_cons Tryz.func316 <| tok_cons Tryz.func317 <| tok_cons Tryz.func318 <| tok_cons Tryz.func338 <| tok_cons Tryz.func339 <| tok_cons Tryz.func340 <| tok_cons Tryz.func341 <| tok_cons Tryz.func342 <| tok_cons Tryz.func343 <| tok_cons Tryz.func344 <| tok_cons Tryz.func345 <| tok_cons Tryz.func346 <| tok_cons Tryz.func347 <| tok_cons Tryz.func348 <| tok_cons Tryz.func349 <| tok_cons Tryz.func350 <| tok_cons Tryz.func351 <| tok_cons Tryz.func352 <| tok_cons Tryz.func353 <| tok_cons Tryz.func379 <| tok_cons Tryz.func380 <| tok_cons Tryz.func381 <| tok_cons Tryz.func382 <| tok_cons Tryz.func383 <| tok_cons Tryz.func417 <| tabR_ok
noncomputable def clsB (l : List Nat) (b : Bool) : Bool := retB 16371 4 ((codW 74 16371 1000 restP).f (run tabC 100) lF ⟨[(5, .v (.s l)), (1, .v (.b b))], [], [], []⟩ ⟨0, .nil, []⟩)
theorem cl0t : clsB [97] true = true := by kernel_rfl
theorem cl0f : clsB [97] false = true := by kernel_rfl
theorem cl1t : clsB [98] true = true := by kernel_rfl
theorem cl1f : clsB [98] false = true := by kernel_rfl
theorem cl2t : clsB [122, 122] true = true := by kernel_rfl
theorem cl2f : clsB [122, 122] false = true := by kernel_rfl
theorem cls_all {i : Nat} {l : List Nat} (h : PN[i]? = some l) (b : Bool) : clsB l b = true ∧ (∀ c ∈ l, c < 256) ∧ l.length ≤ 2 := by
 have hlt := (List.getElem?_eq_some_iff.1 h).1
 have hlt : i < 3 := hlt
 have hc : i = 0 ∨ i = 1 ∨ i = 2 := by omega
 rcases hc with rfl | rfl | rfl
 ·obtain rfl := Option.some.inj h
  refine ⟨?_, by decide, by decide⟩
  cases b
  ·exact cl0f
  ·exact cl0t
 ·obtain rfl := Option.some.inj h
  refine ⟨?_, by decide, by decide⟩
  cases b
  ·exact cl1f
  ·exact cl1t
 ·obtain rfl := Option.some.inj h
  refine ⟨?_, by decide, by decide⟩
  cases b
  ·exact cl2f
  ·exact cl2t
end Rn
theorem sl_ss : SlT 22 9 (.string ⟨#[]⟩) 1 16 := slT Tryz.underlying22 (by kernel_rfl)
attribute [local irreducible] xs T
theorem putClash_core (w : World) (z : Int) (b : Bool) (hP : PowT w) : Does Tryz.prog 3 #[.int .i64 z, .bool b] w fun r w' => r = .bool true ∧ Ext w w' := by
 refine does2 Tryz.func3 rfl (by kernel_rfl) ?_
 obtain ⟨u, hu, h1⟩ : ∃ u : Nat, IntKind.u64.wrap z = (u : Int) ∧ u ≤ 18446744073709551615 := by
  refine ⟨(IntKind.u64.wrap z).toNat, ?_, ?_⟩ <;> simp [IntKind.wrap, IntKind.signed, IntKind.bits] <;> omega
 refine tseq ?_
 refine treg (by kernel_rfl) ?_
 refine go1L ?_
 refine go1L ?_
 refine tseq ?_
 refine treg (by kernel_rfl) ?_
 refine xbs (vs := Rn.PN.map fun l => Value.string (su (Rn.uOf l))) sl_ss rfl rfl (by decide) (by decide) (fun v hv => ?_) (fun w1 hB1 hE1 hs1 => ?_)
 ·obtain ⟨l, _, rfl⟩ := List.mem_map.1 hv
  rfl
 have hr : u % 3 < 3 := Nat.mod_lt _ (by decide)
 obtain ⟨l, hl⟩ : ∃ l, Rn.PN[u % 3]? = some l := ⟨_, List.getElem?_eq_getElem hr⟩
 obtain ⟨q1, q2, q3⟩ := Rn.cls_all hl b
 have hc : w1.cell? ⟨w.heap.size, 0 + u % 3, none⟩ = some (.string (su (Rn.uOf l))) := by
  rw [Nat.zero_add]
  refine (hB1.cell _).trans ?_
  simp [hl]
 have hT := Rn.TabI.init (hP.ext hE1)
 refine go1L ?_
 refine xcv (r := (u : Int)) rfl rfl rfl hu ?_
 refine xdu (r := ((u % 3 : Nat) : Int)) (op := .rem) rfl rfl (by simp [dvI]) (by omega) (by omega) (by omega) ?_
 refine xixn rfl rfl rfl hr ?_
 refine xld rfl rfl hc ?_
 refine go1L ?_
 refine go1L ?_
 refine Rn.t_run (c := Rn.restP) (d := 1000) (n := Rn.lF) (N := 100) (m := 16371) (t := 4) (e := ⟨[(5, .v (.s l)), (1, .v (.b b))], [], [], []⟩) (w0 := ⟨noneB, w1, hT⟩) (ρ := []) Rn.tabC_ok rfl q1 ?_ (Rn.MR.z w1 hT) (fun w' hF => ⟨rfl, hE1.t hF⟩)
 exact Rn.ER.c (v := .string (su (Rn.uOf l))) (Rn.ER.c (v := .bool b) Rn.ER.z rfl rfl) rfl ⟨rfl, q2, by unfold maxLen; omega⟩
end Eng
end Go.Proofs.YtpfelapckcojjaaGreatDoor
