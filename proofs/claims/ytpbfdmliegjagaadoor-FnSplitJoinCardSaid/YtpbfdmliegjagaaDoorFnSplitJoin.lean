/- For every slice of bytes the law FnSplitJoin answers true: SplitString and JoinStrings are inverse, and LessString is a strict order. Condition: two tables of the library read as the program's text lays them (tied). -/
import Derived.Test.YtpbfdmliegjagaaDoorWrap
import Derived.Test.YtpbfdmliegjagaaDoorQSjI
import Derived.Test.YtpbfdmliegjagaaDoorQArgB
import Derived.Lay
import Derived.Test.YtpbfdmliegjagaaDoorTie
import Derived.Test.YtpbfdmliegjagaaDoorCards
import Derived.SevenTiedAt
import Derived.LaidMore
import Derived.Stop.Joined
import Derived.Stop.LaidErr
import Derived.Lib.LaidTab
set_option linter.unusedVariables false
namespace Go.Proofs.YtpbfdmliegjagaaDoor
open Go.ChangeShapes Go.WideShapes Go.ChangeAt Go.RowKit
open Go.ChangeMaps (open_string shut_string)

set_option maxHeartbeats 16000000 in
set_option maxRecDepth 100000 in
theorem fnSplitJoin.walk (w : World) (A0 : Option Addr) (n0 cap0 : Nat) (x0 : Nat → Nat) (b0 : Hid (ArgB w A0 n0 x0)) (hT : Hid (MaxI w)) :
    Calls Tryd.prog 3 #[.slice A0 n0 cap0] w fun e w' => e = .returned (.bool true) ∧ Below w.heap.size w w' := by
  go_enter Tryd.func3, Tryd.ntmps3
  by_cases hbig : 65536 < n0
  · have hbi : (65536 : Int) < n0 := by omega
    go_wp2_with ((go_at_call 5); go_in)
    go_ret
    exact ⟨rfl, Below.refl _ _⟩
  · have hbi : ¬ (65536 : Int) < n0 := by omega
    have hnn : n0 ≤ 65536 := by omega
    have HD := hide (drawSplitString_any A0 n0 cap0 x0 hnn w b0.out)
    clear hbig
    go_upto_region 4 with (first | ((go_at_call 5); go_in) | ((go_at_call 6); (with_reducible refine HD.out.mono ?_); rintro e w2 ⟨s, sep, rfl, hs, hsep, hB⟩))
    clear HD hbi hsep
    have hs10 := anyL_size s hs
    obtain ⟨Ls, hLs⟩ : ∃ Ls : List ByteArray, Ls = ssL s sep := ⟨_, rfl⟩
    obtain ⟨nl, hnl⟩ : ∃ nl : Nat, nl = Ls.length := ⟨_, rfl⟩
    obtain ⟨ok, hok⟩ : ∃ ok : Bool, ok = ssOk s sep := ⟨_, rfl⟩
    have SP : Hid (∀ w : World, MaxI w → Calls Tryd.prog 7 #[.string s, .string sep] w fun e w' => ∃ A cap, e = .returned (.tuple #[.slice A nl cap, .bool ok]) ∧ nl ≤ cap ∧ Sl w' w.heap.size A nl (fun o => .string (fS Ls o)) ∧ Below w.heap.size w w') := hide (fun w h => by rw [hnl, hLs, hok]; exact implSplit_cap s sep w h)
    have hnl2 : nl ≤ 4001 := by rw [hnl, hLs]; exact ssL_len s sep
    have HV := hide (And.intro hLs (And.intro hnl hok))
    clear hLs hnl hok hs
    go_upto_region 5 with (first | ((go_at_call 7); (with_reducible refine (SP.out _ (hT.out.call hB)).mono ?_); rintro e w2 ⟨A1, c1, rfl, hc1, hS1, hb2⟩; have hB' := below_go hB hb2; clear hB hb2 ; have hB := hB'; clear hB'; skip))
    clear SP
    go_upto_region 6 with (first | ((go_at_call 8); (refine (drawJoinStrings_any A0 n0 cap0 x0 hnn _ (b0.out.call hB)).mono ?_); rintro e w2 ⟨u, L, sep2, rfl, hu, hL4, hsz, own, hb2⟩; have hB' := below_go hB hb2; have hS1' := hS1.call hb2; clear hB hb2 hS1; have hB := hB'; clear hB'; have hS1 := hS1'; clear hS1'; skip))
    obtain ⟨g2, cap2, rfl, hcap2, hH⟩ := own_strs own hu
    clear own hu
    obtain ⟨j, fine, hJR⟩ := jr_ex (fS L) L.length sep2
    have htot : tot (fS L) L.length ≤ 1048576 := Nat.le_trans (tot_le hsz.out L.length (Nat.le_refl _)) (Nat.le_trans (Nat.mul_le_mul_right _ hL4) (by omega))
    generalize hn2 : L.length = n2 at *
    have HJ := hide hJR
    clear hJR hsz hn2
    go_upto_region 7 with (first | ((go_at_call 9); (refine (implJoin_any (fS L) n2 cap2 g2 sep2 j fine HJ.out (by omega) hcap2 htot _ hH).mono ?_); rintro e w2 ⟨rfl, hb2⟩; have hB' := below_go hB hb2; have hS1' := hS1.call hb2; have hH' := hH.call hb2; clear hB hb2 hS1 hH; have hB := hB'; clear hB'; have hS1 := hS1'; clear hS1'; have hH := hH'; clear hH'; skip))
    go_upto_region 8 with (first | ((go_at_call 10); (refine (specJoin_any (fS L) n2 cap2 g2 sep2 j fine HJ.out (by omega) htot _ hH).mono ?_); rintro e w2 ⟨rfl, hb2⟩; have hB' := below_go hB hb2; have hS1' := hS1.call hb2; have hH' := hH.call hb2; clear hB hb2 hS1 hH; have hB := hB'; clear hB'; have hS1 := hS1'; clear hS1'; have hH := hH'; clear hH'; skip))
    clear hH HJ htot hcap2 hL4
    go_upto_region 9 with (first | ((go_at_call 11); (refine (drawLessString_any A0 n0 cap0 x0 hnn _ (b0.out.call hB)).mono ?_); rintro e w2 ⟨a, b, rfl, ha, hb, hb2⟩; have hB' := below_go hB hb2; have hS1' := hS1.call hb2; clear hB hb2 hS1; have hB := hB'; clear hB'; have hS1 := hS1'; clear hS1'; skip))
    obtain ⟨qa, hqa⟩ : ∃ qa : Bool, qa = Op.bytesLess a.toList b.toList := ⟨_, rfl⟩
    obtain ⟨qb, hqb⟩ : ∃ qb : Bool, qb = Op.bytesLess b.toList a.toList := ⟨_, rfl⟩
    have L1 : Hid (∀ w, Calls Tryd.prog 12 #[.string a, .string b] w fun e w' => e = .returned (.bool qa) ∧ Below w.heap.size w w') := hide (by rw [hqa]; exact implLess_any a b)
    have L2 : Hid (∀ w, Calls Tryd.prog 13 #[.string a, .string b] w fun e w' => e = .returned (.bool qa) ∧ Below w.heap.size w w') := hide (by rw [hqa]; exact specLess_any a b)
    have L3 : Hid (∀ w, Calls Tryd.prog 12 #[.string b, .string a] w fun e w' => e = .returned (.bool qb) ∧ Below w.heap.size w w') := hide (by rw [hqb]; exact implLess_any b a)
    have hqq : qa = true → qb = false := fun h => by rw [hqb]; exact less_asym a ha b hb (by rw [← hqa]; exact h)
    have HQ := hide hqq
    clear hqq hqa hqb ha hb b0 hnn
    cases qa
    · skip
      go_upto_region 11 with (first | ((go_at_call 12); (with_reducible refine (L1.out _).mono ?_); rintro e w2 ⟨rfl, hb2⟩; have hB' := below_go hB hb2; have hS1' := hS1.call hb2; clear hB hb2 hS1; have hB := hB'; clear hB'; have hS1 := hS1'; clear hS1'; skip) | ((go_at_call 13); (with_reducible refine (L2.out _).mono ?_); rintro e w2 ⟨rfl, hb2⟩; have hB' := below_go hB hb2; have hS1' := hS1.call hb2; clear hB hb2 hS1; have hB := hB'; clear hB'; have hS1 := hS1'; clear hS1'; skip) | ((go_at_call 12); (with_reducible refine (L3.out _).mono ?_); rintro e w2 ⟨rfl, hb2⟩; have hB' := below_go hB hb2; have hS1' := hS1.call hb2; clear hB hb2 hS1; have hB := hB'; clear hB'; have hS1 := hS1'; clear hS1'; skip))
      by_cases h1 : sep.size = 1
      · have a3 : ((sep.size : Int) != 1) = false := by simp; omega
        have a4 : ((sep.size : Int) == 1) = true := by simp; omega
        have hq := HV.out
        obtain rfl : ok = true := by rw [hq.2.2]; simp [ssOk, h1]; omega
        have hJ : JR (fS Ls) nl sep s true := by
          obtain ⟨c, rfl⟩ := one_sep h1
          have e : Ls = spR s c := by rw [hq.1]; unfold ssL; rw [if_pos (by rw [← hq.2.2])]; rfl
          rw [hq.2.1, e]; exact split_join (by omega)
        have hpos : 0 < nl := by
          obtain ⟨c, rfl⟩ := one_sep h1
          have e : Ls = spR s c := by rw [hq.1]; unfold ssL; rw [if_pos (by rw [← hq.2.2])]; rfl
          rw [hq.2.1, e]; exact (spR_len s c).1
        have htt : tot (fS Ls) nl ≤ 1048576 := by
          obtain ⟨c, rfl⟩ := one_sep h1
          have e : Ls = spR s c := by rw [hq.1]; unfold ssL; rw [if_pos (by rw [← hq.2.2])]; rfl
          have hG := split_good s c (by omega)
          rw [hq.2.1, e]; have := hG.2; omega
        obtain ⟨g1, rfl, _, hH1⟩ := hS1 hpos
        have HJ := hide hJ
        clear hJ hq HV h1 hpos hS1
        go_wp2_with (first | (go_at_call 9; (refine (implJoin_any (fS Ls) nl c1 g1 sep s true HJ.out (by omega) hc1 htt _ hH1).mono ?_); rintro e w2 ⟨rfl, hb2⟩; have hB' := below_go hB hb2; clear hB hb2 hH1; have hB := hB'; clear hB'))
        go_ret
        exact ⟨rfl, hB⟩
      · have a3 : ((sep.size : Int) != 1) = true := by simp; omega
        have a4 : ((sep.size : Int) == 1) = false := by simp; omega
        have hq := HV.out
        obtain rfl : ok = false := by rw [hq.2.2]; simp [ssOk, h1]
        obtain rfl : nl = 0 := by rw [hq.2.1, hq.1]; unfold ssL; rw [if_neg (by rw [← hq.2.2]; exact Bool.false_ne_true)]; rfl
        clear hq HV h1 hS1
        go_wp2_with (first | fail)
        go_ret
        exact ⟨rfl, hB⟩
    · obtain rfl : qb = false := HQ.out rfl
      go_upto_region 11 with (first | ((go_at_call 12); (with_reducible refine (L1.out _).mono ?_); rintro e w2 ⟨rfl, hb2⟩; have hB' := below_go hB hb2; have hS1' := hS1.call hb2; clear hB hb2 hS1; have hB := hB'; clear hB'; have hS1 := hS1'; clear hS1'; skip) | ((go_at_call 13); (with_reducible refine (L2.out _).mono ?_); rintro e w2 ⟨rfl, hb2⟩; have hB' := below_go hB hb2; have hS1' := hS1.call hb2; clear hB hb2 hS1; have hB := hB'; clear hB'; have hS1 := hS1'; clear hS1'; skip) | ((go_at_call 12); (with_reducible refine (L3.out _).mono ?_); rintro e w2 ⟨rfl, hb2⟩; have hB' := below_go hB hb2; have hS1' := hS1.call hb2; clear hB hb2 hS1; have hB := hB'; clear hB'; have hS1 := hS1'; clear hS1'; skip))
      by_cases h1 : sep.size = 1
      · have a3 : ((sep.size : Int) != 1) = false := by simp; omega
        have a4 : ((sep.size : Int) == 1) = true := by simp; omega
        have hq := HV.out
        obtain rfl : ok = true := by rw [hq.2.2]; simp [ssOk, h1]; omega
        have hJ : JR (fS Ls) nl sep s true := by
          obtain ⟨c, rfl⟩ := one_sep h1
          have e : Ls = spR s c := by rw [hq.1]; unfold ssL; rw [if_pos (by rw [← hq.2.2])]; rfl
          rw [hq.2.1, e]; exact split_join (by omega)
        have hpos : 0 < nl := by
          obtain ⟨c, rfl⟩ := one_sep h1
          have e : Ls = spR s c := by rw [hq.1]; unfold ssL; rw [if_pos (by rw [← hq.2.2])]; rfl
          rw [hq.2.1, e]; exact (spR_len s c).1
        have htt : tot (fS Ls) nl ≤ 1048576 := by
          obtain ⟨c, rfl⟩ := one_sep h1
          have e : Ls = spR s c := by rw [hq.1]; unfold ssL; rw [if_pos (by rw [← hq.2.2])]; rfl
          have hG := split_good s c (by omega)
          rw [hq.2.1, e]; have := hG.2; omega
        obtain ⟨g1, rfl, _, hH1⟩ := hS1 hpos
        have HJ := hide hJ
        clear hJ hq HV h1 hpos hS1
        go_wp2_with (first | (go_at_call 9; (refine (implJoin_any (fS Ls) nl c1 g1 sep s true HJ.out (by omega) hc1 htt _ hH1).mono ?_); rintro e w2 ⟨rfl, hb2⟩; have hB' := below_go hB hb2; clear hB hb2 hH1; have hB := hB'; clear hB'))
        go_ret
        exact ⟨rfl, hB⟩
      · have a3 : ((sep.size : Int) != 1) = true := by simp; omega
        have a4 : ((sep.size : Int) == 1) = false := by simp; omega
        have hq := HV.out
        obtain rfl : ok = false := by rw [hq.2.2]; simp [ssOk, h1]
        obtain rfl : nl = 0 := by rw [hq.2.1, hq.1]; unfold ssL; rw [if_neg (by rw [← hq.2.2]; exact Bool.false_ne_true)]; rfl
        clear hq HV h1 hS1
        go_wp2_with (first | fail)
        go_ret
        exact ⟨rfl, hB⟩

namespace fnSplitJoin
set_option maxRecDepth 100000 in
theorem lifted (os : Os) (started : os.Started) (H : Type) (enc : TypeId × Value → H) :
    ReturnsInHanded {} Tryd.checked os 3 .any (fun w args => (Rows.fnSplitJoinSpec.pre enc Tryd.prog Tryd.f3 [] false w args ∧ laidMetH Tryd.prog Rows.fnSplitJoinRow.laid w) ∧ sizedMet enc Tryd.prog Tryd.f3 (OpenSpec.ofChange Rows.fnSplitJoinSpec) false w args)
      (Rows.fnSplitJoinSpec.post enc Tryd.prog Tryd.f3 false true false false) := by
  refine wrap_tables (C := Tryd.checked) (X := fun w _ => laidMetH Tryd.prog Rows.fnSplitJoinRow.laid w) (fun _ _ _ hh h => h.of_heap hh) own started (by kernel_rfl) Tryd.func3
    (ChangeSpec.witness_shaped (enc := enc) (C := Tryd.checked) (os := os) (X := fun w _ => laidMetH Tryd.prog Rows.fnSplitJoinRow.laid w) false (World.laidAll Tryd.prog os Rows.fnSplitJoinRow.laid) #[.slice none 0 0] 8 (World.laidAll_os _ _ _) (World.shaped_of_ZipB (by kernel_rfl) (by kernel_rfl)) (by kernel_rfl) (by kernel_rfl) (by kernel_rfl) (by rw [MakeChecks.laidMetH_plain _ _ _ (by kernel_rfl)]; exact laidMet_laidAll _ (by kernel_rfl) (by kernel_rfl))) ?_
  intro W base args ds gs before hval0 hW hcnd hsz0 hL0 hsh _
  have hT : Hid (MaxI W) := hide (maxI_of hsh)
  have hval : ∀ (j : Nat) t v, Tryd.f3.params[j]? = some t → args[j]? = some v → Value.okWide Tryd.prog W .any base t v := hval0
  have hW' := hW
  obtain ⟨p, q, hA0, hV, rfl, hfz, hnd⟩ := hW
  have hA : DataW.TrodAll enc Tryd.prog W 0 (fun _ => true) true Tryd.f3.params.toList args.toList ds p := hA0
  have hA1 := hA
  rw [Tryd.params3] at hA hval
  obtain ⟨v0, vs0, d0, ds0, p0, q0, hargs, rfl, rfl, h0, r0⟩ := trodAll_cons hA
  obtain ⟨rfl, rfl, rfl⟩ := trodAll_nil r0
  obtain rfl : args = #[v0] := by cases args; simp_all
  obtain ⟨rfl, rfl⟩ := trodVars_none hV
  obtain ⟨A0, n0, cap0, x0, rfl, _, b0⟩ := bytes_arg Tryd.underlying22 Tryd.underlying5 (by kernel_rfl) (hval 0 22 v0 rfl rfl) h0
  have keep : ∀ W', Below W.heap.size W W' → DataW.TrodAll enc Tryd.prog W' 0 (fun b => decide (b < W.heap.size)) true Tryd.f3.params.toList _ _ _ := fun W' hb => trodAll_below laidOut hb (by kernel_rfl) hA1
  refine (walk W A0 n0 cap0 x0 b0 hT).mono fun e W' ⟨he, bel⟩ => ?_
  subst he
  exact ⟨_, rfl, _, _, _, [], _, [], hW', trodAll_mk1 (shut_bool Tryd.underlying4 _), keep W' bel, rfl, bel.frame _, fun h => by cases h⟩
set_option maxRecDepth 100000 in
set_option maxHeartbeats 8000000 in
theorem closed : joinedFacts Tryd.prog 3 Tryd.f3 Rows.fnSplitJoinSpec Rows.fnSplitJoinRow = true := by
  unfold joinedFacts
  refine and2 (and2 (and2 (and2 (and2 (and2 (and2 ?_ Head.mayEnter) ?_) ?_) ?_) ?_) ?_) ?_
  · refine and2 (and2 (and2 (and2 (and2 (and2 (and2 (and2 (and2 (and2 (and2 (and2 (and2 (and2 (and2 ?_ ?_) ?_) ?_) ?_) ?_) ?_) ?_) ?_) ?_) ?_) ?_) ?_) ?_) ?_) ?_
    all_goals (as_aux_lemma => kernel_rfl)
  · rw [Head.liftsFinal]; kernel_rfl
  · rw [Head.make]; kernel_rfl
  all_goals (as_aux_lemma => kernel_rfl)
theorem proved : Rows.FnSplitJoinSaid :=
  OpenClaim.holds_of_wide 3 Tryd.f3 rfl rfl rfl rfl rfl rfl rfl ⟨rfl, rfl, rfl, rfl, rfl⟩ rfl rfl rfl rfl rfl (by kernel_rfl) Tryd.func3 closed
    (of_decide_eq_true (by kernel_rfl)) (by unfold Func.isWrapper; first | (rw [if_pos (by decide +kernel)]; kernel_rfl) | (rw [if_neg (by decide +kernel)]; exact ⟨rfl, rfl⟩))
    (fun os started H enc _ => lifted os started H enc)
end fnSplitJoin
set_option maxRecDepth 100000 in
theorem fnSplitJoin_card : Rows.FnSplitJoinCardSaid :=
  Claim7.holds_tied_plain_at .later [] [.data, .pinned] true Rows.fnSplitJoinCard.stood.harness true
    fnSplitJoin.proved (fun _ h => by cases h) (by kernel_rfl) (fun _ h => by cases h) fnSplitJoin_row_tie rfl ⟨rfl, rfl⟩ (by kernel_rfl) rfl
    (fun f fn hf hfn => by
      obtain rfl : f = 3 := Option.some.inj ((show Tryd.prog.funcNamed Rows.fnSplitJoinRow.func = some 3 by kernel_rfl).symm.trans hf) |>.symm
      obtain rfl : fn = Tryd.f3 := (Option.some.inj (Tryd.func3.symm.trans hfn)).symm
      exact ⟨by kernel_rfl, fun j t ht => by
        rw [Tryd.params3] at ht
        have hm : t ∈ [22] := by simpa using Array.mem_of_getElem? ht
        have hall : ([22].all fun u => !Tryd.prog.wantsStandIn u) = true := by kernel_rfl
        exact (show Tryd.prog.wantsStandIn t = false by simpa using List.all_eq_true.1 hall t hm)⟩)
    (by kernel_rfl)
#print axioms fnSplitJoin_card
end Go.Proofs.YtpbfdmliegjagaaDoor
