/- For every two strings the law FnExactSplitString answers true: the program's SplitString and the reference's agree, and what it hands back is the caller's own. Condition: two tables of the library read as the program's text lays them (tied). -/
import Derived.Test.YtbgfdeicjaencaaDoorWrap
import Derived.Test.YtbgfdeicjaencaaDoorSpI
import Derived.Test.YtbgfdeicjaencaaDoorShWrap
import Derived.Lay
import Derived.Test.YtbgfdeicjaencaaDoorTie
import Derived.Test.YtbgfdeicjaencaaDoorCards
import Derived.SevenTiedAt
import Derived.LaidMore
import Derived.Stop.Joined
import Derived.Stop.LaidErr
import Derived.Lib.LaidTab
set_option linter.unusedVariables false
namespace Go.Proofs.YtbgfdeicjaencaaDoor
open Go.ChangeShapes Go.WideShapes Go.ChangeAt Go.RowKit
open Go.ChangeMaps (open_string shut_string)

set_option maxHeartbeats 8000000 in
set_option maxRecDepth 100000 in
theorem fnExactSplitString.walk (x0 : ByteArray) (b0 : x0.size ≤ 140737488351232) (x1 : ByteArray) (b1 : x1.size ≤ 140737488351232) (w : World) (hT : Hid (MaxI w)) :
    Calls Tryd.prog 4 #[.string x0, .string x1] w fun e w' => e = .returned (.bool true) ∧ Below w.heap.size w w' := by
  go_enter Tryd.func4, Tryd.ntmps4
  have hB : Below w.heap.size w w := Below.refl _ _
  by_cases hs : x0.size ≤ 1048576
  · have e1 : decide ((x0.size : Int) > 1048576) = false := decide_eq_false (by omega)
    have e2 : (x0.size : Int) ≤ 1048576 := by omega
    by_cases hs1 : x1.size ≤ 1048576
    · have e3 : decide ((x1.size : Int) > 1048576) = false := decide_eq_false (by omega)
      have e4 : (x1.size : Int) ≤ 1048576 := by omega
      have hln := ssL_len x0 x1
      have hn : (ssL x0 x1).length ≤ 65536 := by omega
      have hq : (0 : Int) ≤ (ssL x0 x1).length := by omega
      generalize hL : ssL x0 x1 = L at *
      have HSP : Hid (∀ w : World, Calls Tryd.prog 12 #[.string x0, .string x1] w fun e w' => ∃ A cap, e = .returned (.tuple #[.slice A L.length cap, .bool (ssOk x0 x1)]) ∧ Sl w' w.heap.size A L.length (fun o => .string (fS L o)) ∧ Below w.heap.size w w') := fun w => by rw [← hL]; exact specSplit_any x0 x1 hs w
      have HIM : Hid (∀ w : World, MaxI w → Calls Tryd.prog 13 #[.string x0, .string x1] w fun e w' => ∃ A cap, e = .returned (.tuple #[.slice A L.length cap, .bool (ssOk x0 x1)]) ∧ Sl w' w.heap.size A L.length (fun o => .string (fS L o)) ∧ Below w.heap.size w w') := fun w h => by rw [← hL]; exact implSplit_any x0 x1 w h
      generalize ssOk x0 x1 = ok at *
      clear hL hln
      go_upto_region 6 with (go_at_call 12; (with_reducible refine (HSP.out _).mono ?_); rintro e w2 ⟨A0, c0, rfl, hS0, hb2⟩)
      have hB := hb2
      have hsw := hb2.size
      have hBa : Below w2.heap.size w2 w2 := Below.refl _ _
      clear hb2
      go_upto_region 7 with (go_at_call 13; (with_reducible refine (HIM.out _ (hT.out.call hB)).mono ?_); rintro e w3 ⟨A1, c1, rfl, hS1, hb3⟩; have hB3 := below_go hB hb3; have hBa3 := below_go hBa hb3; clear hB hBa hb3; have hB := hB3; have hBa := hBa3; clear hB3 hBa3)
      go_upto_region 9 with (go_at_call 14; (with_reducible refine (eqStringS_sl _ _ _ _ _ _ _ _ _ hn hS1 (hS0.call hBa)).mono ?_); rintro e w4 ⟨rfl, hb4⟩; have hB4 := below_go hB hb4; have hBa4 := below_go hBa hb4; have hS4 := hS1.call hb4; clear hB hBa hS1 hb4; have hB := hB4; have hBa := hBa4; have hS1 := hS4; clear hB4 hBa4 hS4)
      go_upto_region 11 with (go_at_call 15; (with_reducible refine (markStringS_one _ _ w2.heap.size _ _ _ hn hBa.size hS1).mono ?_); rintro e w5 ⟨rfl, hb5, hM⟩; have hB5 := hB.trans (hb5.mono hsw); have hBa5 := hBa.trans hb5; clear hB hBa hS1 hb5; have hB := hB5; have hBa := hBa5; clear hB5 hBa5)
      go_upto_region 16 with (go_at_call 16; (with_reducible refine (heldStringS_one _ _ _ _ _ hn hM).mono ?_); rintro e w6 ⟨rfl, hb6⟩; have hB6 := below_go hB hb6; have hBa6 := below_go hBa hb6; have hM6 := hM.call hb6; clear hB hBa hM hb6; have hB := hB6; have hBa := hBa6; have hM := hM6; clear hB6 hBa6 hM6)
      go_upto_region 18 with (go_at_call 13; (with_reducible refine (HIM.out _ (hT.out.call hB)).mono ?_); rintro e w7 ⟨A2, c2, rfl, hS2, hb7⟩; have hB7 := below_go hB hb7; have hBa7 := below_go hBa hb7; have hM7 := hM.call hb7; clear hB hBa hM hb7; have hB := hB7; have hBa := hBa7; have hM := hM7; clear hB7 hBa7 hM7)
      go_upto_region 20 with (go_at_call 14; (with_reducible refine (eqStringS_sl _ _ _ _ _ _ _ _ _ hn hS2 (hS0.call hBa)).mono ?_); rintro e w8 ⟨rfl, hb8⟩; have hB8 := below_go hB hb8; have hM8 := hM.call hb8; clear hB hBa hM hS2 hb8; have hB := hB8; have hM := hM8; clear hB8 hM8)
      go_wp2_with (go_at_call 16; (with_reducible refine (heldStringS_one _ _ _ _ _ hn hM).mono ?_); rintro e w9 ⟨rfl, hb9⟩; have hB9 := below_go hB hb9; clear hB hb9; have hB := hB9; clear hB9)
      go_ret
      exact ⟨rfl, hB⟩
    · have e3 : decide ((x1.size : Int) > 1048576) = true := decide_eq_true (by omega)
      have e4 : 1048576 < (x1.size : Int) := by omega
      go_wp2_with fail
      go_ret
      exact ⟨rfl, hB⟩
  · have e1 : decide ((x0.size : Int) > 1048576) = true := decide_eq_true (by omega)
    have e2 : 1048576 < (x0.size : Int) := by omega
    go_wp2_with fail
    go_ret
    exact ⟨rfl, hB⟩

namespace fnExactSplitString
set_option maxRecDepth 100000 in
theorem lifted (os : Os) (started : os.Started) (H : Type) (enc : TypeId × Value → H) :
    ReturnsInHanded {} Tryd.checked os 4 .any (fun w args => (Rows.fnExactSplitStringSpec.pre enc Tryd.prog Tryd.f4 [] false w args ∧ laidMetH Tryd.prog Rows.fnExactSplitStringRow.laid w) ∧ sizedMet enc Tryd.prog Tryd.f4 (OpenSpec.ofChange Rows.fnExactSplitStringSpec) false w args)
      (Rows.fnExactSplitStringSpec.post enc Tryd.prog Tryd.f4 false true false false) := by
  refine wrap_tables (C := Tryd.checked) (X := fun w _ => laidMetH Tryd.prog Rows.fnExactSplitStringRow.laid w) (fun _ _ _ hh h => h.of_heap hh) own started (by kernel_rfl) Tryd.func4
    (ChangeSpec.witness_shaped (enc := enc) (C := Tryd.checked) (os := os) (X := fun w _ => laidMetH Tryd.prog Rows.fnExactSplitStringRow.laid w) false (World.laidAll Tryd.prog os Rows.fnExactSplitStringRow.laid) #[.string ByteArray.empty, .string ByteArray.empty] 8 (World.laidAll_os _ _ _) (World.shaped_of_ZipB (by kernel_rfl) (by kernel_rfl)) (by kernel_rfl) (by kernel_rfl) (by kernel_rfl) (by rw [MakeChecks.laidMetH_plain _ _ _ (by kernel_rfl)]; exact laidMet_laidAll _ (by kernel_rfl) (by kernel_rfl))) ?_
  intro W base args ds gs before hval0 hW hcnd hsz0 hL0 hsh _
  have hT : Hid (MaxI W) := hide (maxI_of hsh)
  have hsz : (DataW.weightsEach Tryd.prog (Tryd.f4.params.toList ++ Rows.fnExactSplitStringSpec.plain.varTypes Tryd.prog) (ds ++ gs)).all (· ≤ reachBytes) = true := hsz0
  have hval : ∀ (j : Nat) t v, Tryd.f4.params[j]? = some t → args[j]? = some v → Value.okWide Tryd.prog W .any base t v := hval0
  have hW' := hW
  obtain ⟨p, q, hA0, hV, rfl, hfz, hnd⟩ := hW
  have hA : DataW.TrodAll enc Tryd.prog W 0 (fun _ => true) true Tryd.f4.params.toList args.toList ds p := hA0
  have hA1 := hA
  rw [Tryd.params4] at hA hval hsz
  obtain ⟨v0, vs0, d0, ds0, p0, q0, hargs, rfl, rfl, h0, r0⟩ := trodAll_cons hA
  obtain ⟨v1, vs1, d1, ds1, p1, q1, rfl, rfl, rfl, h1, r1⟩ := trodAll_cons r0
  obtain ⟨rfl, rfl, rfl⟩ := trodAll_nil r1
  obtain rfl : args = #[v0, v1] := by cases args; simp_all
  obtain ⟨rfl, rfl⟩ := trodVars_none hV
  obtain ⟨x0, rfl, e0, -, y0⟩ := open_string Tryd.underlying9 (hval 0 9 v0 rfl rfl) h0
  have w0 : x0.size ≤ 140737488351232 := by
    subst e0
    have z := sized_string hsz (j := 0) (t := 9) rfl rfl
    rw [Array.length_toList] at z
    exact z
  obtain ⟨x1, rfl, e1, -, y1⟩ := open_string Tryd.underlying9 (hval 1 9 v1 rfl rfl) h1
  have w1 : x1.size ≤ 140737488351232 := by
    subst e1
    have z := sized_string hsz (j := 1) (t := 9) rfl rfl
    rw [Array.length_toList] at z
    exact z
  have keep : ∀ W', Below W.heap.size W W' → DataW.TrodAll enc Tryd.prog W' 0 (fun b => decide (b < W.heap.size)) true Tryd.f4.params.toList _ _ _ := fun W' hb => trodAll_below laidOut hb (by kernel_rfl) hA1
  refine (walk x0 w0 x1 w1 W hT).mono fun e W' ⟨he, bel⟩ => ?_
  subst he
  exact ⟨_, rfl, _, _, _, [], _, [], hW', trodAll_mk1 (shut_bool Tryd.underlying4 _), keep W' bel, rfl, bel.frame _, fun h => by cases h⟩
set_option maxRecDepth 100000 in
set_option maxHeartbeats 8000000 in
theorem closed : joinedFacts Tryd.prog 4 Tryd.f4 Rows.fnExactSplitStringSpec Rows.fnExactSplitStringRow = true := by
  unfold joinedFacts
  refine and2 (and2 (and2 (and2 (and2 (and2 (and2 ?_ Head.mayEnter) ?_) ?_) ?_) ?_) ?_) ?_
  · refine and2 (and2 (and2 (and2 (and2 (and2 (and2 (and2 (and2 (and2 (and2 (and2 (and2 (and2 (and2 ?_ ?_) ?_) ?_) ?_) ?_) ?_) ?_) ?_) ?_) ?_) ?_) ?_) ?_) ?_) ?_
    all_goals (as_aux_lemma => kernel_rfl)
  · rw [Head.liftsFinal]; kernel_rfl
  · rw [Head.make]; kernel_rfl
  all_goals (as_aux_lemma => kernel_rfl)
theorem proved : Rows.FnExactSplitStringSaid :=
  OpenClaim.holds_of_wide 4 Tryd.f4 rfl rfl rfl rfl rfl rfl rfl ⟨rfl, rfl, rfl, rfl, rfl⟩ rfl rfl rfl rfl rfl (by kernel_rfl) Tryd.func4 closed
    (of_decide_eq_true (by kernel_rfl)) (by unfold Func.isWrapper; first | (rw [if_pos (by decide +kernel)]; kernel_rfl) | (rw [if_neg (by decide +kernel)]; exact ⟨rfl, rfl⟩))
    (fun os started H enc _ => lifted os started H enc)
end fnExactSplitString
set_option maxRecDepth 100000 in
theorem fnExactSplitString_card : Rows.FnExactSplitStringCardSaid :=
  Claim7.holds_tied_plain_at .later [] [.data, .pinned] true Rows.fnExactSplitStringCard.stood.harness true
    fnExactSplitString.proved (fun _ h => by cases h) (by kernel_rfl) (fun _ h => by cases h) fnExactSplitString_row_tie rfl ⟨rfl, rfl⟩ (by kernel_rfl) rfl
    (fun f fn hf hfn => by
      obtain rfl : f = 4 := Option.some.inj ((show Tryd.prog.funcNamed Rows.fnExactSplitStringRow.func = some 4 by kernel_rfl).symm.trans hf) |>.symm
      obtain rfl : fn = Tryd.f4 := (Option.some.inj (Tryd.func4.symm.trans hfn)).symm
      exact ⟨by kernel_rfl, fun j t ht => by
        rw [Tryd.params4] at ht
        have hm : t ∈ [9, 9] := by simpa using Array.mem_of_getElem? ht
        have hall : ([9, 9].all fun u => !Tryd.prog.wantsStandIn u) = true := by kernel_rfl
        exact (show Tryd.prog.wantsStandIn t = false by simpa using List.all_eq_true.1 hall t hm)⟩)
    (by kernel_rfl)
#print axioms fnExactSplitString_card
end Go.Proofs.YtbgfdeicjaencaaDoor
