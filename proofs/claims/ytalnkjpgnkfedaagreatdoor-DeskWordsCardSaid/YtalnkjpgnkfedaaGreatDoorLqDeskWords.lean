/- The law DeskWords returns true for every input, and the input reads as it did; what the row lists of Go's library is tied to the program's text. No conditions. -/
import Derived.Test.YtalnkjpgnkfedaaGreatDoorTld
import Derived.Test.YtalnkjpgnkfedaaGreatDoorEngE
import Derived.Test.YtalnkjpgnkfedaaGreatDoorRow
import Derived.Test.YtalnkjpgnkfedaaGreatDoorTie
import Derived.Test.YtalnkjpgnkfedaaGreatDoorCards
import Derived.Lay
import Derived.SevenTiedAt
import Derived.Stop.Joined
import Derived.Stop.LaidErr
import Derived.Lib.LaidTab
namespace Go.Proofs.YtalnkjpgnkfedaaGreatDoor
open Go.RowKit
namespace Eng
namespace Rn
set_option maxRecDepth 100000
noncomputable def LN : List (List Nat) := [[109, 107, 100, 105, 114], [109, 107, 100, 105, 114, 32, 97, 32, 98], [102, 105, 108, 101], [102, 105, 102, 111, 32, 97, 32, 98], [108, 105, 110, 107, 32, 97], [115, 108, 105, 110, 107, 32, 97], [119, 114, 105, 116, 101, 32, 97, 32, 48], [119, 114, 105, 116, 101, 32, 97, 32, 120, 32, 97, 98, 99], [119, 114, 105, 116, 101, 32, 97, 32, 48, 32, 98, 32, 99], [115, 105, 122, 101, 32, 97], [115, 105, 122, 101, 32, 97, 32, 120], [109, 111, 100, 101, 32, 97, 32, 45, 49], [111, 119, 110, 32, 97, 32, 49], [111, 119, 110, 32, 97, 32, 49, 32, 120], [116, 105, 109, 101, 32, 97], [114, 109], [114, 109, 32, 97, 32, 98], [115, 97, 118, 101], [115, 97, 118, 101, 32, 97, 32, 98], [116, 117, 114, 110, 32, 49], [116, 117, 114, 110, 32, 120, 32, 49], [116, 117, 114, 110, 32, 49, 32, 120], [108, 105, 115, 116], [114, 101, 115, 116, 111, 114, 101], [115, 97, 109, 101, 32, 97], [32, 115, 97, 109, 101], [83, 97, 109, 101], [109, 107, 100, 105, 114, 32, 32, 97]]
noncomputable def out3 : List Nat := [121, 101, 115, 10, 101, 114, 114, 111, 114, 10, 121, 101, 115, 10]
noncomputable def txt (l : List Nat) : List Nat := [115, 97, 109, 101, 10] ++ (l ++ [10, 115, 97, 109, 101])
noncomputable def wOK (l : List Nat) : Bool := an (okB (txt l)) (okT out3 (fP (txt l) fun s => run tabR 100 6 [.v (.s s)] ⟨0, .nil, []⟩))
noncomputable def wAll (l : List (List Nat)) : Bool := List.rec (motive := fun _ => Bool) true (fun x _ ih => an (wOK x) ih) l
theorem wAll_get : ∀ {l : List (List Nat)}, wAll l = true → ∀ (i : Nat) x, l[i]? = some x → wOK x = true
  | [], _, i, x, hx => by cases hx
  | y :: l, h, i, x, hx => by
    obtain ⟨h1, h2⟩ := an_inv (show an (wOK y) (wAll l) = true from h)
    cases i with
    | zero => obtain rfl := Option.some.inj hx; exact h1
    | succ i => exact wAll_get h2 i x hx
theorem w0 : wAll (LN.take 4) = true := by kernel_rfl
theorem w1 : wAll ((LN.drop 4).take 4) = true := by kernel_rfl
theorem w2 : wAll ((LN.drop 8).take 4) = true := by kernel_rfl
theorem w3 : wAll ((LN.drop 12).take 4) = true := by kernel_rfl
theorem w4 : wAll ((LN.drop 16).take 4) = true := by kernel_rfl
theorem w5 : wAll ((LN.drop 20).take 4) = true := by kernel_rfl
theorem w6 : wAll (LN.drop 24) = true := by kernel_rfl
theorem w_at {i : Nat} {x : List Nat} (hx : LN[i]? = some x) : wOK x = true := by
  have part : ∀ (j : Nat), (LN.drop (4 * j)).take 4 = (LN.drop (4 * j)).take 4 → wAll ((LN.drop (4 * j)).take 4) = true → i / 4 = j → wOK x = true := fun j _ h hj => by
    refine wAll_get h (i - 4 * j) x ?_
    rw [List.getElem?_take_of_lt (by omega), List.getElem?_drop]
    rw [show 4 * j + (i - 4 * j) = i from by omega]
    exact hx
  have hlt := (List.getElem?_eq_some_iff.1 hx).1
  have hlt : i < 28 := hlt
  have hc : i / 4 = 0 ∨ i / 4 = 1 ∨ i / 4 = 2 ∨ i / 4 = 3 ∨ i / 4 = 4 ∨ i / 4 = 5 ∨ i / 4 = 6 := by omega
  rcases hc with h | h | h | h | h | h | h
  · exact part 0 rfl w0 h
  · exact part 1 rfl w1 h
  · exact part 2 rfl w2 h
  · exact part 3 rfl w3 h
  · exact part 4 rfl w4 h
  · exact part 5 rfl w5 h
  · exact part 6 rfl w6 h
theorem words_run (w : World) (hT : TabI noneB w) {i : Nat} {x : List Nat} (hx : LN[i]? = some x) : Does Tryz.prog 6 #[.string (su (uOf (txt x)))] w fun r w' => r = .string (su (uOf out3)) ∧ Ext w w' := by
  obtain ⟨h1, h2⟩ := an_inv (w_at hx)
  rw [fP_eq] at h2
  exact text_run tabR_ok h1 h2 w hT
end Rn
theorem sl_ss : SlT 26 9 (.string ⟨#[]⟩) 1 16 := slT Tryz.underlying26 (by kernel_rfl)
attribute [local irreducible] xs T
set_option maxRecDepth 100000 in
set_option maxHeartbeats 4000000 in
theorem deskWords_core (w : World) (z : Int) (hP : PowT w) : Does Tryz.prog 4 #[.int .i64 z] w fun r w' => r = .bool true ∧ Ext w w' := by
  refine does1 Tryz.func4 rfl (by kernel_rfl) ?_
  obtain ⟨u, hu, h1⟩ : ∃ u : Nat, IntKind.u64.wrap z = (u : Int) ∧ u ≤ 18446744073709551615 := by
    refine ⟨(IntKind.u64.wrap z).toNat, ?_, ?_⟩ <;> simp [IntKind.wrap, IntKind.signed, IntKind.bits] <;> omega
  refine goL ?_
  refine xbs (vs := Rn.LN.map fun l => Value.string (su (Rn.uOf l))) sl_ss rfl rfl (by decide) (by decide) (fun v hv => ?_) (fun w1 hB1 hE1 hs1 => ?_)
  · obtain ⟨l, _, rfl⟩ := List.mem_map.1 hv
    rfl
  refine goL ?_
  refine xcall rfl rfl (Rn.told_does w1 (Rn.TabI.init (hP.ext hE1))) (fun r w2 h2 => ?_)
  obtain ⟨rfl, hE2⟩ := h2
  have hr : u % 28 < 28 := Nat.mod_lt _ (by decide)
  obtain ⟨l, hl⟩ : ∃ l, Rn.LN[u % 28]? = some l := ⟨_, List.getElem?_eq_getElem hr⟩
  have hc : w2.cell? ⟨w.heap.size, 0 + u % 28, none⟩ = some (.string (su (Rn.uOf l))) := by
    rw [Nat.zero_add]
    refine hE2.cell ((hB1.cell _).trans ?_)
    simp [hl]
  have hlen : (Rn.uOf l).length ≤ 1000000 := by
    have h3 := (Rn.okB_inv (Rn.an_inv (Rn.w_at hl)).1).2
    have h4 : (Rn.uOf l).length = l.length := List.length_map _
    have h5 : (Rn.txt l).length = l.length + 10 := by unfold Rn.txt; simp
    have h6 : l.length ≤ 15 := by
      have : ∀ x ∈ Rn.LN, x.length ≤ 15 := by decide
      exact this l (List.mem_of_getElem? hl)
    omega
  have e1 : su (([115, 97, 109, 101, 10] : Str) ++ Rn.uOf l ++ [10, 115, 97, 109, 101]) = su (Rn.uOf (Rn.txt l)) := by
    unfold Rn.txt Rn.uOf
    simp
  repeat' (first | refine xcv (r := (u : Int)) rfl rfl rfl hu ?_ | refine xcvu rfl rfl rfl (by omega) (by omega) ?_ | refine xdu (r := ((u % 28 : Nat) : Int)) (op := .rem) rfl rfl (by simp [dvI]) (by omega) (by omega) (by omega) ?_ | refine xuadd (a := [115, 97, 109, 101, 10]) (b := Rn.uOf l) rfl rfl (by simp; omega) ?_ | refine xuadd (b := [10, 115, 97, 109, 101]) rfl rfl (by simp; omega) ?_ | refine go1L ?_ | fail)
  rw [e1]
  refine xcall rfl rfl (Rn.words_run w2 (Rn.TabI.init ((hP.ext hE1).ext hE2)) hl) (fun r w3 h3 => ?_)
  obtain ⟨rfl, hE3⟩ := h3
  repeat' (first | refine xucmp (op := .eql) (a := Rn.uOf Rn.out3) (b := Rn.uOf Rn.out3) (r := true) rfl rfl rfl ?_ | refine go1L ?_ | fail)
  exact tret1 rfl rfl ⟨rfl, (hE1.t hE2).t hE3⟩
end Eng
end Go.Proofs.YtalnkjpgnkfedaaGreatDoor

namespace Go.Proofs.YtalnkjpgnkfedaaGreatDoor
open Go.ChangeShapes Go.WideShapes Go.ChangeAt Go.RowKit Eng

set_option maxRecDepth 100000 in
theorem deskWords_lifted (os : Os) (started : os.Started) (H : Type) (enc : TypeId × Value → H) :
    ReturnsInHanded {} Tryz.checked os 4 .any (fun w args => (Rows.deskWordsSpec.pre enc Tryz.prog Tryz.f4 Rows.deskWordsRow.domain false w args ∧ laidMetH Tryz.prog Rows.deskWordsRow.laid w) ∧ sizedMet enc Tryz.prog Tryz.f4 (OpenSpec.ofChange Rows.deskWordsSpec) false w args)
      (Rows.deskWordsSpec.post enc Tryz.prog Tryz.f4 false true false false) := by
  refine returnsInHanded_of_change_and (C := Tryz.checked) (X := fun w _ => laidMetH Tryz.prog Rows.deskWordsRow.laid w) (fun _ _ _ hh h => h.of_heap hh) own_ started (by kernel_rfl) Tryz.func4
    (ChangeSpec.witness_shaped (enc := enc) (C := Tryz.checked) (os := os) (X := fun w _ => laidMetH Tryz.prog Rows.deskWordsRow.laid w) false (World.laidAll Tryz.prog os Rows.deskWordsRow.laid) #[.int .i64 0] 8 (World.laidAll_os _ _ _)
      (World.shaped_of_ZipB (by kernel_rfl) (by kernel_rfl)) (by kernel_rfl) (by kernel_rfl) (by kernel_rfl)
      (by rw [MakeChecks.laidMetH_plain _ _ _ (by kernel_rfl)]; exact laidMet_laidAll _ (by kernel_rfl) (by kernel_rfl))) ?_
  intro W base args ds gs before hval0 hW _ _ hL _
  have hval : ∀ (j : Nat) t v, Tryz.f4.params[j]? = some t → args[j]? = some v → Value.okWide Tryz.prog W .any base t v := hval0
  have hW' := hW
  obtain ⟨p, q, hA0, hV, rfl, hfz, hnd⟩ := hW
  have hA : DataW.TrodAll enc Tryz.prog W 0 (fun _ => true) true Tryz.f4.params.toList args.toList ds p := hA0
  rw [Tryz.params4] at hA hval
  obtain ⟨v0, d0, rfl, rfl, h0⟩ := trodAll_one hA
  obtain ⟨rfl, rfl⟩ := trodVars_none hV
  obtain ⟨z0, rfl, rfl, rfl, x0⟩ := open_int Tryz.underlying3 (hval 0 3 v0 rfl rfl) h0
  have hP : PowT W := by
    have hL' : laidMet Tryz.prog Rows.deskWordsRow.laid W := by
      have h := hL
      rw [MakeChecks.laidMetH_plain _ _ _ (by kernel_rfl)] at h
      exact h
    exact Lib.tabIs_of_head (g := (Tryz.prog.globalNamed "internal/strconv.uint64pow10").getD 0) (by kernel_rfl) (by kernel_rfl) Tryz.underlying334 Tryz.underlying134 (by kernel_rfl) (by kernel_rfl) hL'.tail.tail
  clear hA0 hval0
  refine Calls.mono (deskWords_core W z0 hP) fun e W' ⟨v, he, hr, hE⟩ => ?_
  subst hr
  exact ⟨_, he, post_law rfl rfl (by kernel_rfl) (by kernel_rfl) hW' hE⟩

set_option maxRecDepth 100000 in
theorem deskWords_in : (Rows.deskWordsRow.inPlace == Tryz.prog.inPlace 4) = true := by kernel_rfl
set_option maxRecDepth 100000 in
theorem deskWords_un : (Rows.deskWordsRow.unfollowed == Tryz.prog.unfollowed 4) = true := by kernel_rfl
set_option maxRecDepth 100000 in
theorem deskWords_re : (Rows.deskWordsRow.recurses == Tryz.prog.recurses 4) = true := by kernel_rfl
set_option maxRecDepth 100000 in
theorem deskWords_va : (Rows.deskWordsRow.named == Tryz.prog.varsNamed 4) = true := by kernel_rfl
set_option maxRecDepth 100000 in
theorem deskWords_facts : joinedFacts Tryz.prog 4 Tryz.f4 Rows.deskWordsSpec Rows.deskWordsRow = true := by
  unfold joinedFacts
  rw [deskWords_in, deskWords_un, deskWords_re, deskWords_va]
  kernel_rfl
set_option maxRecDepth 100000 in
theorem deskWords_stand : (Tryz.f4.params.toList.all fun u => !Tryz.prog.wantsStandIn u) = true := by kernel_rfl
set_option maxRecDepth 100000 in
theorem deskWords_look : true = Tryz.checked.prog.looks [] := by kernel_rfl
theorem goes_none {P : Program} {c : OpenClaim} (h : (P.funcs.toList.all fun f => !f.goes) = true) (hs : c.start = .entering) : false = c.goesBy P := by
  have h0 : ∀ f ∈ P.funcs.toList, f.goes = false := fun f hf => by simpa using List.all_eq_true.1 h f hf
  have ha : P.funcs.any Func.goes = false := by
    rw [← Array.any_toList, List.any_eq_false]
    exact fun f hf => by rw [h0 f hf]; exact Bool.false_ne_true
  have hb : ∀ g : Nat, (P.funcs[g]?).any Func.goes = false := fun g => by
    cases hg : P.funcs[g]? with
    | none => rfl
    | some f => exact h0 f (Array.mem_toList_iff.2 (Array.mem_of_getElem? hg))
  have h1 : ∀ f, P.goes f = false := fun f => by
    unfold Program.goes
    simp [hb, ha]
  unfold OpenClaim.goesBy Program.goesAt Program.goesFrom
  rw [hs]
  cases P.funcNamed c.func with
  | none => rfl
  | some f => simp [h1]
set_option maxRecDepth 100000 in
theorem deskWords_goes : false = Rows.deskWordsRow.goesBy Tryz.checked.prog := goes_none (show (Tryz.prog.funcs.toList.all fun f => !f.goes) = true by kernel_rfl) rfl
set_option maxRecDepth 100000 in
theorem deskWords_wf : Rows.deskWordsRow.wfByText (OpenSpec.ofChange Rows.deskWordsSpec) = true := by kernel_rfl
set_option maxRecDepth 100000 in
theorem deskWords_row : Rows.DeskWordsSaid :=
  OpenClaim.holds_of_wide 4 Tryz.f4 rfl rfl rfl rfl rfl rfl rfl ⟨rfl, rfl, rfl, rfl, rfl⟩ rfl rfl rfl rfl rfl (by kernel_rfl) Tryz.func4 deskWords_facts
    (of_decide_eq_true (by kernel_rfl)) (by unfold Func.isWrapper; first | (rw [if_pos (by decide +kernel)]; kernel_rfl) | (rw [if_neg (by decide +kernel)]; exact ⟨rfl, rfl⟩))
    (fun os started H enc _ => deskWords_lifted os started H enc)
set_option maxRecDepth 100000 in
theorem deskWords_holds : Rows.DeskWordsCardSaid :=
  Claim7.holds_tied_plain_at .later [] [.data, .data, .data, .data, .sentinel, .sentinel, .pinned] true (true, "9107884afa5c15a7d68593d52cde91a1c7e1a439664920c1676b17a3531fdaaf") true deskWords_row (fun _ h => by cases h) deskWords_wf (fun _ h => by cases h) deskWords_row_tie rfl ⟨rfl, rfl⟩ (by kernel_rfl) rfl
    (fun f fn hf hfn => by
      obtain rfl : f = 4 := Option.some.inj ((show Tryz.prog.funcNamed "steamer/steamerlaw28.DeskWords" = some 4 by kernel_rfl).symm.trans hf) |>.symm
      obtain rfl : fn = Tryz.f4 := (Option.some.inj (Tryz.func4.symm.trans hfn)).symm
      exact ⟨deskWords_look, fun j t ht => by
        rw [Tryz.params4] at ht
        have hm := Array.mem_of_getElem? ht
        have hall := deskWords_stand
        rw [Tryz.params4] at hall
        exact (show Tryz.prog.wantsStandIn t = false by simpa using List.all_eq_true.1 hall t (by simpa using hm))⟩)
    deskWords_goes
#print axioms deskWords_holds
end Go.Proofs.YtalnkjpgnkfedaaGreatDoor
