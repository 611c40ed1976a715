/- For every slice of bytes the law FnFormGroup answers true: forms make a group, slides go with them, and forms keep the sum of a board and its equal pairs. No condition. -/
import Derived.Test.YtegdnfmhhigjfaaWrap
import Derived.Test.YtegdnfmhhigjfaaQFgD
import Derived.Test.YtegdnfmhhigjfaaQForm6
import Derived.Test.YtegdnfmhhigjfaaForm7
import Derived.Test.YtegdnfmhhigjfaaSide
import Derived.Test.YtegdnfmhhigjfaaPairs3
import Derived.Test.YtegdnfmhhigjfaaSlideBd
set_option linter.unusedVariables false
namespace Go.Proofs.Ytegdnfmhhigjfaa
open Go.ChangeShapes Go.WideShapes Go.ChangeAt Go.RowKit
open Go.ChangeMaps (open_string shut_string)

set_option maxHeartbeats 64000000 in
set_option maxRecDepth 100000 in
theorem fnFormGroup.walk (w : World) (A0 : Option Addr) (n0 cap0 : Nat) (x0 : Nat → Nat) (c0 : Hid (n0 ≤ cap0 ∧ (A0 = none → cap0 = 0))) (b0 : Hid (ArgB w A0 n0 x0)) :
    Calls Try.prog 3 #[.slice A0 n0 cap0] w fun e w' => e = .returned (.bool true) ∧ Below w.heap.size w w' := by
  go_enter Try.func3, Try.ntmps3
  by_cases hbig : 65536 < n0
  · have hbi : (65536 : Int) < n0 := by omega
    go_wp2_with ((go_at_call 6); go_in)
    go_ret
    exact ⟨rfl, Below.refl _ _⟩
  · have hbi : ¬ (65536 : Int) < n0 := by omega
    have hnn : n0 ≤ 65536 := by omega
    have HD := hide (drawFormBoard_any A0 n0 cap0 x0 hnn w b0.out)
    clear hbig
    go_upto_region 4 with (first | ((go_at_call 6); go_in) | ((go_at_call 7); (with_reducible refine HD.out.mono ?_); rintro e w2 ⟨b, k, rfl, hBI, hk, hB⟩) | (refine store_BoardF rfl _ _ rfl _ b rfl rfl (Has.new' (n := 16) rfl) ?_; intro w3 ho3 hn3))
    clear HD hBI hbi
    have hB' := below_fr hB ho3
    have i3 := hn3
    clear hB ho3 hn3 
    have hB := hB'; clear hB'
    generalize w2.heap.size = Ei3 at *
    clear w2
    obtain ⟨pO, hpO⟩ : ∃ pO : Bool, pO = (bdB b && inB k 0 7) := ⟨_, rfl⟩
    obtain ⟨fo, hfo⟩ : ∃ fo : Nat → Int, fo = bz pO (formB b k.toNat) := ⟨_, rfl⟩
    obtain ⟨pT, hpT⟩ : ∃ pT : Bool, pT = inB k 0 7 := ⟨_, rfl⟩
    obtain ⟨ba, hba⟩ : ∃ ba : Int, ba = zr pT ((bkP k.toNat : Nat) : Int) := ⟨_, rfl⟩
    have F1 : Hid (∀ w, Calls Try.prog 8 #[.agg #[.int .i64 (b 0), .int .i64 (b 1), .int .i64 (b 2), .int .i64 (b 3), .int .i64 (b 4), .int .i64 (b 5), .int .i64 (b 6), .int .i64 (b 7), .int .i64 (b 8), .int .i64 (b 9), .int .i64 (b 10), .int .i64 (b 11), .int .i64 (b 12), .int .i64 (b 13), .int .i64 (b 14), .int .i64 (b 15)], .int .i64 k] w fun e w' => e = .returned (.tuple #[.agg #[.int .i64 (fo 0), .int .i64 (fo 1), .int .i64 (fo 2), .int .i64 (fo 3), .int .i64 (fo 4), .int .i64 (fo 5), .int .i64 (fo 6), .int .i64 (fo 7), .int .i64 (fo 8), .int .i64 (fo 9), .int .i64 (fo 10), .int .i64 (fo 11), .int .i64 (fo 12), .int .i64 (fo 13), .int .i64 (fo 14), .int .i64 (fo 15)], .bool pO]) ∧ Below w.heap.size w w') := hide (by rw [hfo, hpO]; exact formBoard_any b k)
    have F2 : Hid (∀ w, Calls Try.prog 9 #[.agg #[.int .i64 (b 0), .int .i64 (b 1), .int .i64 (b 2), .int .i64 (b 3), .int .i64 (b 4), .int .i64 (b 5), .int .i64 (b 6), .int .i64 (b 7), .int .i64 (b 8), .int .i64 (b 9), .int .i64 (b 10), .int .i64 (b 11), .int .i64 (b 12), .int .i64 (b 13), .int .i64 (b 14), .int .i64 (b 15)], .int .i64 k] w fun e w' => e = .returned (.tuple #[.agg #[.int .i64 (fo 0), .int .i64 (fo 1), .int .i64 (fo 2), .int .i64 (fo 3), .int .i64 (fo 4), .int .i64 (fo 5), .int .i64 (fo 6), .int .i64 (fo 7), .int .i64 (fo 8), .int .i64 (fo 9), .int .i64 (fo 10), .int .i64 (fo 11), .int .i64 (fo 12), .int .i64 (fo 13), .int .i64 (fo 14), .int .i64 (fo 15)], .bool pO]) ∧ Below w.heap.size w w') := hide (by rw [hfo, hpO]; exact specFormBoard_any b k)
    have K1 : Hid (∀ w, Calls Try.prog 14 #[.int .i64 k] w fun e w' => e = .returned (.tuple #[.int .i64 ba, .bool pT]) ∧ Below w.heap.size w w') := hide (by rw [hba, hpT]; exact formBack_any k)
    have K2 : Hid (∀ w, Calls Try.prog 15 #[.int .i64 k] w fun e w' => e = .returned (.tuple #[.int .i64 ba, .bool pT]) ∧ Below w.heap.size w w') := hide (by rw [hba, hpT]; exact specFormBack_any k)
    have HV := hide (And.intro hpO (And.intro hfo (And.intro hpT (And.intro hba hk))))
    clear hpO hfo hpT hba hk
    have hL1 : True := trivial
    go_upto_region 5 with (first | ((have hM := hL1); (refine load_BoardF rfl _ rfl _ _ rfl i3 ?_); (clear hM hL1)) | ((go_at_call 8); (with_reducible refine (F1.out _).mono ?_); rintro e w2 ⟨rfl, hb2⟩; have hB' := below_go hB hb2; have i3' := i3.call hb2; clear hB hb2 i3; have hB := hB'; clear hB'; have i3 := i3'; clear i3'; skip) | (refine store_BoardF rfl _ _ rfl _ fo rfl rfl (Has.new' (n := 16) rfl) ?_; intro w3 ho3 hn3))
    have hB' := below_fr hB ho3
    have i3' := has_fr i3 ho3
    have i5 := hn3
    clear hB ho3 hn3 i3
    have hB := hB'; clear hB'
    have i3 := i3'; clear i3'
    generalize w2.heap.size = Ei5 at *
    clear w2
    have hL1 : True := trivial
    go_upto_region 6 with (first | ((have hM := hL1); (refine load_BoardF rfl _ rfl _ _ rfl i3 ?_); (clear hM hL1)) | ((go_at_call 9); (with_reducible refine (F2.out _).mono ?_); rintro e w2 ⟨rfl, hb2⟩; have hB' := below_go hB hb2; have i3' := i3.call hb2; have i5' := i5.call hb2; clear hB hb2 i3 i5; have hB := hB'; clear hB'; have i3 := i3'; clear i3'; have i5 := i5'; clear i5'; skip) | (refine store_BoardF rfl _ _ rfl _ fo rfl rfl (Has.new' (n := 16) rfl) ?_; intro w3 ho3 hn3))
    have hB' := below_fr hB ho3
    have i3' := has_fr i3 ho3
    have i5' := has_fr i5 ho3
    have i7 := hn3
    clear hB ho3 hn3 i3 i5
    have hB := hB'; clear hB'
    have i3 := i3'; clear i3'
    have i5 := i5'; clear i5'
    generalize w2.heap.size = Ei7 at *
    clear w2
    go_upto_region 7 with (first | ((go_at_call 11); (refine (vCut_1 A0 n0 cap0 x0 hnn c0.out _ (b0.out.call hB)).mono ?_); rintro e w2 ⟨A1, n1, cp1, x1, rfl, hn1, hA1, hb2⟩; have hB' := below_go hB hb2; have i3' := i3.call hb2; have i5' := i5.call hb2; have i7' := i7.call hb2; clear hB hb2 i3 i5 i7; have hB := hB'; clear hB'; have i3 := i3'; clear i3'; have i5 := i5'; clear i5'; have i7 := i7'; clear i7'; skip) | ((go_at_call 10); (with_reducible refine (drawFormBehind_any A1 n1 cp1 x1 hn1 _ hA1).mono ?_); rintro e w2 ⟨x, y, rfl, hx, hy, hb2⟩; have hB' := below_go hB hb2; have i3' := i3.call hb2; have i5' := i5.call hb2; have i7' := i7.call hb2; clear hB hb2 i3 i5 i7; have hB := hB'; clear hB'; have i3 := i3'; clear i3'; have i5 := i5'; clear i5'; have i7 := i7'; clear i7'; skip))
    clear hn1 hA1
    obtain ⟨pF, hpF⟩ : ∃ pF : Bool, pF = (inB x 0 7 && inB y 0 7) := ⟨_, rfl⟩
    obtain ⟨bo, hbo⟩ : ∃ bo : Int, bo = zr pF ((bhP x.toNat y.toNat : Nat) : Int) := ⟨_, rfl⟩
    have H1 : Hid (∀ w, Calls Try.prog 12 #[.int .i64 x, .int .i64 y] w fun e w' => e = .returned (.tuple #[.int .i64 bo, .bool pF]) ∧ Below w.heap.size w w') := hide (by rw [hbo, hpF]; exact formBehind_any x y)
    have H2 : Hid (∀ w, Calls Try.prog 13 #[.int .i64 x, .int .i64 y] w fun e w' => e = .returned (.tuple #[.int .i64 bo, .bool pF]) ∧ Below w.heap.size w w') := hide (by rw [hbo, hpF]; exact specFormBehind_any x y)
    have HW := hide (And.intro hpF (And.intro hbo (And.intro hx hy)))
    clear hpF hbo hx hy
    go_upto_region 8 with (first | ((go_at_call 12); (with_reducible refine (H1.out _).mono ?_); rintro e w2 ⟨rfl, hb2⟩; have hB' := below_go hB hb2; have i3' := i3.call hb2; have i5' := i5.call hb2; have i7' := i7.call hb2; clear hB hb2 i3 i5 i7; have hB := hB'; clear hB'; have i3 := i3'; clear i3'; have i5 := i5'; clear i5'; have i7 := i7'; clear i7'; skip))
    go_upto_region 9 with (first | ((go_at_call 13); (with_reducible refine (H2.out _).mono ?_); rintro e w2 ⟨rfl, hb2⟩; have hB' := below_go hB hb2; have i3' := i3.call hb2; have i5' := i5.call hb2; have i7' := i7.call hb2; clear hB hb2 i3 i5 i7; have hB := hB'; clear hB'; have i3 := i3'; clear i3'; have i5 := i5'; clear i5'; have i7 := i7'; clear i7'; skip))
    go_upto_region 10 with (first | ((go_at_call 14); (with_reducible refine (K1.out _).mono ?_); rintro e w2 ⟨rfl, hb2⟩; have hB' := below_go hB hb2; have i3' := i3.call hb2; have i5' := i5.call hb2; have i7' := i7.call hb2; clear hB hb2 i3 i5 i7; have hB := hB'; clear hB'; have i3 := i3'; clear i3'; have i5 := i5'; clear i5'; have i7 := i7'; clear i7'; skip))
    go_upto_region 11 with (first | ((go_at_call 15); (with_reducible refine (K2.out _).mono ?_); rintro e w2 ⟨rfl, hb2⟩; have hB' := below_go hB hb2; have i3' := i3.call hb2; have i5' := i5.call hb2; have i7' := i7.call hb2; clear hB hb2 i3 i5 i7; have hB := hB'; clear hB'; have i3 := i3'; clear i3'; have i5 := i5'; clear i5'; have i7 := i7'; clear i7'; skip))
    go_upto_region 12 with (first | ((go_at_call 11); (refine (vCut_2 A0 n0 cap0 x0 hnn c0.out _ (b0.out.call hB)).mono ?_); rintro e w2 ⟨A2, n2, cp2, x2, rfl, hn2, hA2, hb2⟩; have hB' := below_go hB hb2; have i3' := i3.call hb2; have i5' := i5.call hb2; have i7' := i7.call hb2; clear hB hb2 i3 i5 i7; have hB := hB'; clear hB'; have i3 := i3'; clear i3'; have i5 := i5'; clear i5'; have i7 := i7'; clear i7'; skip) | ((go_at_call 16); (with_reducible refine (drawFormSide_any A2 n2 cp2 x2 hn2 _ hA2).mono ?_); rintro e w2 ⟨f, d, rfl, hf, hd, hb2⟩; have hB' := below_go hB hb2; have i3' := i3.call hb2; have i5' := i5.call hb2; have i7' := i7.call hb2; clear hB hb2 i3 i5 i7; have hB := hB'; clear hB'; have i3 := i3'; clear i3'; have i5 := i5'; clear i5'; have i7 := i7'; clear i7'; skip))
    clear hn2 hA2 b0 c0 hnn
    obtain ⟨pS, hpS⟩ : ∃ pS : Bool, pS = (inB f 0 7 && inB d 0 3) := ⟨_, rfl⟩
    obtain ⟨si, hsi⟩ : ∃ si : Int, si = zr pS (sdS f.toNat d.toNat) := ⟨_, rfl⟩
    have D1 : Hid (∀ w, Calls Try.prog 17 #[.int .i64 f, .int .i64 d] w fun e w' => e = .returned (.tuple #[.int .i64 si, .bool pS]) ∧ Below w.heap.size w w') := hide (by rw [hsi, hpS]; exact formSide_any f d)
    have D2 : Hid (∀ w, Calls Try.prog 18 #[.int .i64 f, .int .i64 d] w fun e w' => e = .returned (.tuple #[.int .i64 si, .bool pS]) ∧ Below w.heap.size w w') := hide (by rw [hsi, hpS]; exact specFormSide_any f d)
    have HX := hide (And.intro hpS (And.intro hsi (And.intro hf hd)))
    clear hpS hsi hf hd
    go_upto_region 13 with (first | ((go_at_call 17); (with_reducible refine (D1.out _).mono ?_); rintro e w2 ⟨rfl, hb2⟩; have hB' := below_go hB hb2; have i3' := i3.call hb2; have i5' := i5.call hb2; have i7' := i7.call hb2; clear hB hb2 i3 i5 i7; have hB := hB'; clear hB'; have i3 := i3'; clear i3'; have i5 := i5'; clear i5'; have i7 := i7'; clear i7'; skip))
    go_upto_region 14 with (first | ((go_at_call 18); (with_reducible refine (D2.out _).mono ?_); rintro e w2 ⟨rfl, hb2⟩; have hB' := below_go hB hb2; have i3' := i3.call hb2; have i5' := i5.call hb2; have i7' := i7.call hb2; clear hB hb2 i3 i5 i7; have hB := hB'; clear hB'; have i3 := i3'; clear i3'; have i5 := i5'; clear i5'; have i7 := i7'; clear i7'; skip))
    have n1 := neq_B (eqB_refl fo)
    clear F1 F2 K1 K2 H1 H2 D1 D2
    cases pT
    · obtain rfl : pO = false := by (have h := HV.out; rw [h.1]; rw [← h.2.2.1]; simp)
      have hL1 : True := trivial
      have hL2 : True := trivial
      go_wp2_with (first | ((have hM := hL1); (refine load_BoardF rfl _ rfl _ _ rfl i5 ?_); (clear hM hL1)) | ((have hM := hL2); (refine load_BoardF rfl _ rfl _ _ rfl i7 ?_); (clear hM hL2)))
      all_goals (go_ret; exact ⟨rfl, hB⟩)
    · cases pO
      · obtain ⟨K, hK, rfl⟩ := form_nat HV.out.2.2.1.symm
        obtain rfl : ba = ((bkP K : Nat) : Int) := by (have h := HV.out; rw [h.2.2.2.1]; rfl)
        have hbk := bh_bk K hK; have hbl := bkP_lt K hK
        have Z1 : Hid (∀ w, Calls Try.prog 12 #[.int .i64 (K : Int), .int .i64 ((bkP K : Nat) : Int)] w fun e w' => e = .returned (.tuple #[.int .i64 0, .bool true]) ∧ Below w.heap.size w w') := hide (by (have h := formBehind_any (K : Int) ((bkP K : Nat) : Int); rw [form_in hK, form_in hbl, Bool.and_self, zr_true, Int.toNat_natCast, Int.toNat_natCast, hbk.1] at h; exact h))
        have Z2 : Hid (∀ w, Calls Try.prog 12 #[.int .i64 ((bkP K : Nat) : Int), .int .i64 (K : Int)] w fun e w' => e = .returned (.tuple #[.int .i64 0, .bool true]) ∧ Below w.heap.size w w') := hide (by (have h := formBehind_any ((bkP K : Nat) : Int) (K : Int); rw [form_in hK, form_in hbl, Bool.and_self, zr_true, Int.toNat_natCast, Int.toNat_natCast, hbk.2] at h; exact h))
        clear HV hbk hbl hK
        have hL1 : True := trivial
        have hL2 : True := trivial
        go_upto_region 17 with (first | ((have hM := hL1); (refine load_BoardF rfl _ rfl _ _ rfl i5 ?_); (clear hM hL1)) | ((have hM := hL2); (refine load_BoardF rfl _ rfl _ _ rfl i7 ?_); (clear hM hL2)))
        go_upto_region 18 with (first | ((go_at_call 12); (with_reducible refine (Z1.out _).mono ?_); rintro e w2 ⟨rfl, hb2⟩; have hB' := below_go hB hb2; have i3' := i3.call hb2; have i5' := i5.call hb2; have i7' := i7.call hb2; clear hB hb2 i3 i5 i7; have hB := hB'; clear hB'; have i3 := i3'; clear i3'; have i5 := i5'; clear i5'; have i7 := i7'; clear i7'; skip))
        go_upto_region 19 with (first | ((go_at_call 12); (with_reducible refine (Z2.out _).mono ?_); rintro e w2 ⟨rfl, hb2⟩; have hB' := below_go hB hb2; have i3' := i3.call hb2; have i5' := i5.call hb2; have i7' := i7.call hb2; clear hB hb2 i3 i5 i7; have hB := hB'; clear hB'; have i3 := i3'; clear i3'; have i5 := i5'; clear i5'; have i7 := i7'; clear i7'; skip))
        go_wp2_with (first | fail)
        all_goals (go_ret; exact ⟨rfl, hB⟩)
      · obtain ⟨K, hK, rfl⟩ := form_nat HV.out.2.2.1.symm
        obtain rfl : ba = ((bkP K : Nat) : Int) := by (have h := HV.out; rw [h.2.2.2.1]; rfl)
        have hbk := bh_bk K hK; have hbl := bkP_lt K hK
        have hbb : bdB b = true := by (have h := HV.out.1; cases e : bdB b; (rw [e] at h; cases h); rfl)
        have hfe : ∀ p, fo p = formB b K p := by (have h := HV.out.2.1; intro p; rw [h]; rfl)
        have hfq : eqB fo (formB b K) = true := eqB_true.2 fun p _ => hfe p
        have hfb : bdB fo = true := by (rw [bdB_congr hfq]; exact bd_in17 (formB_in (bdB_in hbb) hK))
        have Z1 : Hid (∀ w, Calls Try.prog 12 #[.int .i64 (K : Int), .int .i64 ((bkP K : Nat) : Int)] w fun e w' => e = .returned (.tuple #[.int .i64 0, .bool true]) ∧ Below w.heap.size w w') := hide (by (have h := formBehind_any (K : Int) ((bkP K : Nat) : Int); rw [form_in hK, form_in hbl, Bool.and_self, zr_true, Int.toNat_natCast, Int.toNat_natCast, hbk.1] at h; exact h))
        have Z2 : Hid (∀ w, Calls Try.prog 12 #[.int .i64 ((bkP K : Nat) : Int), .int .i64 (K : Int)] w fun e w' => e = .returned (.tuple #[.int .i64 0, .bool true]) ∧ Below w.heap.size w w') := hide (by (have h := formBehind_any ((bkP K : Nat) : Int) (K : Int); rw [form_in hK, form_in hbl, Bool.and_self, zr_true, Int.toNat_natCast, Int.toNat_natCast, hbk.2] at h; exact h))
        obtain ⟨ho, hho⟩ : ∃ ho : Nat → Int, ho = formB fo (bkP K) := ⟨_, rfl⟩
        obtain ⟨su, hsu⟩ : ∃ su : Int, su = smT b 16 := ⟨_, rfl⟩
        obtain ⟨ep, hep⟩ : ∃ ep : Int, ep = prS b 4 := ⟨_, rfl⟩
        have hhe : eqB ho b = true := by (rw [hho]; exact eqB_trans (formB_congr hfq hbl) (formB_home hK))
        have hsf : smT fo 16 = su := by (rw [hsu, ← smT_form b hK]; exact congrArg (fun q => smT q 16) (funext hfe))
        have hef : prS fo 4 = ep := by (rw [hep, ← prS_form b hK]; exact congrArg (fun q => prS q 4) (funext hfe))
        have C1 : Hid (∀ w, Calls Try.prog 8 #[.agg #[.int .i64 (fo 0), .int .i64 (fo 1), .int .i64 (fo 2), .int .i64 (fo 3), .int .i64 (fo 4), .int .i64 (fo 5), .int .i64 (fo 6), .int .i64 (fo 7), .int .i64 (fo 8), .int .i64 (fo 9), .int .i64 (fo 10), .int .i64 (fo 11), .int .i64 (fo 12), .int .i64 (fo 13), .int .i64 (fo 14), .int .i64 (fo 15)], .int .i64 ((bkP K : Nat) : Int)] w fun e w' => e = .returned (.tuple #[.agg #[.int .i64 (ho 0), .int .i64 (ho 1), .int .i64 (ho 2), .int .i64 (ho 3), .int .i64 (ho 4), .int .i64 (ho 5), .int .i64 (ho 6), .int .i64 (ho 7), .int .i64 (ho 8), .int .i64 (ho 9), .int .i64 (ho 10), .int .i64 (ho 11), .int .i64 (ho 12), .int .i64 (ho 13), .int .i64 (ho 14), .int .i64 (ho 15)], .bool true]) ∧ Below w.heap.size w w') := hide (by (have h := formBoard_any fo ((bkP K : Nat) : Int); rw [hfb, form_in hbl, Int.toNat_natCast, ← hho] at h; exact h))
        have S1 : Hid (∀ w, Calls Try.prog 19 #[.agg #[.int .i64 (b 0), .int .i64 (b 1), .int .i64 (b 2), .int .i64 (b 3), .int .i64 (b 4), .int .i64 (b 5), .int .i64 (b 6), .int .i64 (b 7), .int .i64 (b 8), .int .i64 (b 9), .int .i64 (b 10), .int .i64 (b 11), .int .i64 (b 12), .int .i64 (b 13), .int .i64 (b 14), .int .i64 (b 15)]] w fun e w' => e = .returned (.tuple #[.int .i64 su, .bool true]) ∧ Below w.heap.size w w') := hide (by (have h := sumOf_any b; rw [hbb, ← hsu] at h; exact h))
        have S2 : Hid (∀ w, Calls Try.prog 19 #[.agg #[.int .i64 (fo 0), .int .i64 (fo 1), .int .i64 (fo 2), .int .i64 (fo 3), .int .i64 (fo 4), .int .i64 (fo 5), .int .i64 (fo 6), .int .i64 (fo 7), .int .i64 (fo 8), .int .i64 (fo 9), .int .i64 (fo 10), .int .i64 (fo 11), .int .i64 (fo 12), .int .i64 (fo 13), .int .i64 (fo 14), .int .i64 (fo 15)]] w fun e w' => e = .returned (.tuple #[.int .i64 su, .bool true]) ∧ Below w.heap.size w w') := hide (by (have h := sumOf_any fo; rw [hfb, hsf] at h; exact h))
        have E1 : Hid (∀ w, Calls Try.prog 20 #[.agg #[.int .i64 (b 0), .int .i64 (b 1), .int .i64 (b 2), .int .i64 (b 3), .int .i64 (b 4), .int .i64 (b 5), .int .i64 (b 6), .int .i64 (b 7), .int .i64 (b 8), .int .i64 (b 9), .int .i64 (b 10), .int .i64 (b 11), .int .i64 (b 12), .int .i64 (b 13), .int .i64 (b 14), .int .i64 (b 15)]] w fun e w' => e = .returned (.tuple #[.int .i64 ep, .bool true]) ∧ Below w.heap.size w w') := hide (by (have h := equalPairs_any b; rw [hbb, ← hep] at h; exact h))
        have E2 : Hid (∀ w, Calls Try.prog 20 #[.agg #[.int .i64 (fo 0), .int .i64 (fo 1), .int .i64 (fo 2), .int .i64 (fo 3), .int .i64 (fo 4), .int .i64 (fo 5), .int .i64 (fo 6), .int .i64 (fo 7), .int .i64 (fo 8), .int .i64 (fo 9), .int .i64 (fo 10), .int .i64 (fo 11), .int .i64 (fo 12), .int .i64 (fo 13), .int .i64 (fo 14), .int .i64 (fo 15)]] w fun e w' => e = .returned (.tuple #[.int .i64 ep, .bool true]) ∧ Below w.heap.size w w') := hide (by (have h := equalPairs_any fo; rw [hfb, hef] at h; exact h))
        have n2 := neq_B hhe
        have HB := hide hbb
        clear HV hbk hbl hK hfe hfq hfb hho hsu hep hhe hsf hef hbb
        have hL1 : True := trivial
        have hL2 : True := trivial
        go_upto_region 17 with (first | ((have hM := hL1); (refine load_BoardF rfl _ rfl _ _ rfl i5 ?_); (clear hM hL1)) | ((have hM := hL2); (refine load_BoardF rfl _ rfl _ _ rfl i7 ?_); (clear hM hL2)))
        go_upto_region 18 with (first | ((go_at_call 12); (with_reducible refine (Z1.out _).mono ?_); rintro e w2 ⟨rfl, hb2⟩; have hB' := below_go hB hb2; have i3' := i3.call hb2; have i5' := i5.call hb2; have i7' := i7.call hb2; clear hB hb2 i3 i5 i7; have hB := hB'; clear hB'; have i3 := i3'; clear i3'; have i5 := i5'; clear i5'; have i7 := i7'; clear i7'; skip))
        go_upto_region 19 with (first | ((go_at_call 12); (with_reducible refine (Z2.out _).mono ?_); rintro e w2 ⟨rfl, hb2⟩; have hB' := below_go hB hb2; have i3' := i3.call hb2; have i5' := i5.call hb2; have i7' := i7.call hb2; clear hB hb2 i3 i5 i7; have hB := hB'; clear hB'; have i3 := i3'; clear i3'; have i5 := i5'; clear i5'; have i7 := i7'; clear i7'; skip))
        clear n1 Z1 Z2
        go_upto_region 23 with (first | fail)
        have hL1 : True := trivial
        go_upto_region 24 with (first | ((have hM := hL1); (refine load_BoardF rfl _ rfl _ _ rfl i5 ?_); (clear hM hL1)) | ((go_at_call 8); (with_reducible refine (C1.out _).mono ?_); rintro e w2 ⟨rfl, hb2⟩; have hB' := below_go hB hb2; have i3' := i3.call hb2; have i5' := i5.call hb2; have i7' := i7.call hb2; clear hB hb2 i3 i5 i7; have hB := hB'; clear hB'; have i3 := i3'; clear i3'; have i5 := i5'; clear i5'; have i7 := i7'; clear i7'; skip) | (refine store_BoardF rfl _ _ rfl _ ho rfl rfl (Has.new' (n := 16) rfl) ?_; intro w3 ho3 hn3))
        have hB' := below_fr hB ho3
        have i3' := has_fr i3 ho3
        have i5' := has_fr i5 ho3
        have i7' := has_fr i7 ho3
        have i29 := hn3
        clear hB ho3 hn3 i3 i5 i7
        have hB := hB'; clear hB'
        have i3 := i3'; clear i3'
        have i5 := i5'; clear i5'
        have i7 := i7'; clear i7'
        generalize w2.heap.size = Ei29 at *
        clear w2
        have hL1 : True := trivial
        go_upto_region 25 with (first | ((have hM := hL1); (refine load_BoardF rfl _ rfl _ _ rfl i3 ?_); (clear hM hL1)) | ((go_at_call 19); (with_reducible refine (S1.out _).mono ?_); rintro e w2 ⟨rfl, hb2⟩; have hB' := below_go hB hb2; have i3' := i3.call hb2; have i5' := i5.call hb2; have i7' := i7.call hb2; have i29' := i29.call hb2; clear hB hb2 i3 i5 i7 i29; have hB := hB'; clear hB'; have i3 := i3'; clear i3'; have i5 := i5'; clear i5'; have i7 := i7'; clear i7'; have i29 := i29'; clear i29'; skip))
        have hL1 : True := trivial
        go_upto_region 26 with (first | ((have hM := hL1); (refine load_BoardF rfl _ rfl _ _ rfl i5 ?_); (clear hM hL1)) | ((go_at_call 19); (with_reducible refine (S2.out _).mono ?_); rintro e w2 ⟨rfl, hb2⟩; have hB' := below_go hB hb2; have i3' := i3.call hb2; have i5' := i5.call hb2; have i7' := i7.call hb2; have i29' := i29.call hb2; clear hB hb2 i3 i5 i7 i29; have hB := hB'; clear hB'; have i3 := i3'; clear i3'; have i5 := i5'; clear i5'; have i7 := i7'; clear i7'; have i29 := i29'; clear i29'; skip))
        have hL1 : True := trivial
        go_upto_region 27 with (first | ((have hM := hL1); (refine load_BoardF rfl _ rfl _ _ rfl i3 ?_); (clear hM hL1)) | ((go_at_call 20); (with_reducible refine (E1.out _).mono ?_); rintro e w2 ⟨rfl, hb2⟩; have hB' := below_go hB hb2; have i3' := i3.call hb2; have i5' := i5.call hb2; have i7' := i7.call hb2; have i29' := i29.call hb2; clear hB hb2 i3 i5 i7 i29; have hB := hB'; clear hB'; have i3 := i3'; clear i3'; have i5 := i5'; clear i5'; have i7 := i7'; clear i7'; have i29 := i29'; clear i29'; skip))
        have hL1 : True := trivial
        go_upto_region 28 with (first | ((have hM := hL1); (refine load_BoardF rfl _ rfl _ _ rfl i5 ?_); (clear hM hL1)) | ((go_at_call 20); (with_reducible refine (E2.out _).mono ?_); rintro e w2 ⟨rfl, hb2⟩; have hB' := below_go hB hb2; have i3' := i3.call hb2; have i5' := i5.call hb2; have i7' := i7.call hb2; have i29' := i29.call hb2; clear hB hb2 i3 i5 i7 i29; have hB := hB'; clear hB'; have i3 := i3'; clear i3'; have i5 := i5'; clear i5'; have i7 := i7'; clear i7'; have i29 := i29'; clear i29'; skip))
        have hL1 : True := trivial
        have hL2 : True := trivial
        go_upto_region 30 with (first | ((have hM := hL1); (refine load_BoardG _ rfl _ _ rfl i29 (by rfl) ?_); (clear hM hL1)) | ((have hM := hL2); (refine load_BoardG _ rfl _ _ rfl i3 (by rfl) ?_); (clear hM hL2)))
        clear n2 C1 S1 S2 E1 E2 i5 i7 i29
        cases pF
        · clear HW
          go_upto_region 36 with (first | fail)
          cases pS
          · skip
            go_wp2_with (first | fail)
            go_ret
            exact ⟨rfl, hB⟩
          · have hfd : (inB f 0 7 && inB d 0 3) = true := HX.out.1.symm
            rw [Bool.and_eq_true] at hfd
            obtain ⟨F, hF, rfl⟩ := form_nat hfd.1
            obtain ⟨D, hD, rfl⟩ := dir_nat hfd.2
            have hss := sd_first F hF D hD
            obtain rfl : si = ((sdP F D : Nat) : Int) := by (have h := HX.out.2.1; rw [h, zr_true, Int.toNat_natCast, Int.toNat_natCast, hss.2.1])
            obtain ⟨tu, htu⟩ : ∃ tu : Nat → Int, tu = formB b F := ⟨_, rfl⟩
            obtain ⟨sl, hsl⟩ : ∃ sl : Nat → Int, sl = slB b D := ⟨_, rfl⟩
            obtain ⟨sc, hsc⟩ : ∃ sc : Int, sc = scTo b D 4 := ⟨_, rfl⟩
            obtain ⟨af, haf⟩ : ∃ af : Nat → Int, af = formB sl F := ⟨_, rfl⟩
            obtain ⟨dr, hdr⟩ : ∃ dr : Nat → Int, dr = slB tu (sdP F D) := ⟨_, rfl⟩
            have hbb := HB.out; have hib := bdB_in hbb
            have htb : bdB tu = true := by (rw [htu]; exact bd_in17 (formB_in hib hF))
            have hsb : bdB sl = true := by (rw [hsl]; exact bd_in17 (slB_in hib))
            have hq : eqB af dr = true := by (rw [haf, hdr, hsl, htu]; exact slB_form b hF hD)
            have hsc2 : scTo tu (sdP F D) 4 = sc := by (rw [htu, hsc]; exact scTo_form b hF hD)
            have T1 : Hid (∀ w, Calls Try.prog 8 #[.agg #[.int .i64 (b 0), .int .i64 (b 1), .int .i64 (b 2), .int .i64 (b 3), .int .i64 (b 4), .int .i64 (b 5), .int .i64 (b 6), .int .i64 (b 7), .int .i64 (b 8), .int .i64 (b 9), .int .i64 (b 10), .int .i64 (b 11), .int .i64 (b 12), .int .i64 (b 13), .int .i64 (b 14), .int .i64 (b 15)], .int .i64 (F : Int)] w fun e w' => e = .returned (.tuple #[.agg #[.int .i64 (tu 0), .int .i64 (tu 1), .int .i64 (tu 2), .int .i64 (tu 3), .int .i64 (tu 4), .int .i64 (tu 5), .int .i64 (tu 6), .int .i64 (tu 7), .int .i64 (tu 8), .int .i64 (tu 9), .int .i64 (tu 10), .int .i64 (tu 11), .int .i64 (tu 12), .int .i64 (tu 13), .int .i64 (tu 14), .int .i64 (tu 15)], .bool true]) ∧ Below w.heap.size w w') := hide (by (have h := formBoard_any b (F : Int); rw [hbb, form_in hF, Int.toNat_natCast, ← htu] at h; exact h))
            have L1 : Hid (∀ w, Calls Try.prog 21 #[.agg #[.int .i64 (b 0), .int .i64 (b 1), .int .i64 (b 2), .int .i64 (b 3), .int .i64 (b 4), .int .i64 (b 5), .int .i64 (b 6), .int .i64 (b 7), .int .i64 (b 8), .int .i64 (b 9), .int .i64 (b 10), .int .i64 (b 11), .int .i64 (b 12), .int .i64 (b 13), .int .i64 (b 14), .int .i64 (b 15)], .int .i64 (D : Int)] w fun e w' => e = .returned (.tuple #[.agg #[.int .i64 (sl 0), .int .i64 (sl 1), .int .i64 (sl 2), .int .i64 (sl 3), .int .i64 (sl 4), .int .i64 (sl 5), .int .i64 (sl 6), .int .i64 (sl 7), .int .i64 (sl 8), .int .i64 (sl 9), .int .i64 (sl 10), .int .i64 (sl 11), .int .i64 (sl 12), .int .i64 (sl 13), .int .i64 (sl 14), .int .i64 (sl 15)], .int .i64 sc, .bool true]) ∧ Below w.heap.size w w') := hide (by (have h := slideBoard_any b (D : Int); rw [hbb, dir_in hD, Int.toNat_natCast, ← hsl, ← hsc] at h; exact h))
            have T2 : Hid (∀ w, Calls Try.prog 8 #[.agg #[.int .i64 (sl 0), .int .i64 (sl 1), .int .i64 (sl 2), .int .i64 (sl 3), .int .i64 (sl 4), .int .i64 (sl 5), .int .i64 (sl 6), .int .i64 (sl 7), .int .i64 (sl 8), .int .i64 (sl 9), .int .i64 (sl 10), .int .i64 (sl 11), .int .i64 (sl 12), .int .i64 (sl 13), .int .i64 (sl 14), .int .i64 (sl 15)], .int .i64 (F : Int)] w fun e w' => e = .returned (.tuple #[.agg #[.int .i64 (af 0), .int .i64 (af 1), .int .i64 (af 2), .int .i64 (af 3), .int .i64 (af 4), .int .i64 (af 5), .int .i64 (af 6), .int .i64 (af 7), .int .i64 (af 8), .int .i64 (af 9), .int .i64 (af 10), .int .i64 (af 11), .int .i64 (af 12), .int .i64 (af 13), .int .i64 (af 14), .int .i64 (af 15)], .bool true]) ∧ Below w.heap.size w w') := hide (by (have h := formBoard_any sl (F : Int); rw [hsb, form_in hF, Int.toNat_natCast, ← haf] at h; exact h))
            have L2 : Hid (∀ w, Calls Try.prog 21 #[.agg #[.int .i64 (tu 0), .int .i64 (tu 1), .int .i64 (tu 2), .int .i64 (tu 3), .int .i64 (tu 4), .int .i64 (tu 5), .int .i64 (tu 6), .int .i64 (tu 7), .int .i64 (tu 8), .int .i64 (tu 9), .int .i64 (tu 10), .int .i64 (tu 11), .int .i64 (tu 12), .int .i64 (tu 13), .int .i64 (tu 14), .int .i64 (tu 15)], .int .i64 ((sdP F D : Nat) : Int)] w fun e w' => e = .returned (.tuple #[.agg #[.int .i64 (dr 0), .int .i64 (dr 1), .int .i64 (dr 2), .int .i64 (dr 3), .int .i64 (dr 4), .int .i64 (dr 5), .int .i64 (dr 6), .int .i64 (dr 7), .int .i64 (dr 8), .int .i64 (dr 9), .int .i64 (dr 10), .int .i64 (dr 11), .int .i64 (dr 12), .int .i64 (dr 13), .int .i64 (dr 14), .int .i64 (dr 15)], .int .i64 sc, .bool true]) ∧ Below w.heap.size w w') := hide (by (have h := slideBoard_any tu ((sdP F D : Nat) : Int); rw [htb, dir_in hss.1, Int.toNat_natCast, ← hdr, hsc2] at h; exact h))
            have n4 := neq_B hq
            clear HB HX hfd hF hD hss htu hsl hsc haf hdr hbb hib htb hsb hq hsc2
            have hL1 : True := trivial
            go_upto_region 38 with (first | ((have hM := hL1); (refine load_BoardF rfl _ rfl _ _ rfl i3 ?_); (clear hM hL1)) | ((go_at_call 8); (with_reducible refine (T1.out _).mono ?_); rintro e w2 ⟨rfl, hb2⟩; have hB' := below_go hB hb2; have i3' := i3.call hb2; clear hB hb2 i3; have hB := hB'; clear hB'; have i3 := i3'; clear i3'; skip) | (refine store_BoardF rfl _ _ rfl _ tu rfl rfl (Has.new' (n := 16) rfl) ?_; intro w3 ho3 hn3))
            have hB' := below_fr hB ho3
            have i3' := has_fr i3 ho3
            have i45 := hn3
            clear hB ho3 hn3 i3
            have hB := hB'; clear hB'
            have i3 := i3'; clear i3'
            generalize w2.heap.size = Ei45 at *
            clear w2
            have hL1 : True := trivial
            go_upto_region 39 with (first | ((have hM := hL1); (refine load_BoardF rfl _ rfl _ _ rfl i3 ?_); (clear hM hL1)) | ((go_at_call 21); (with_reducible refine (L1.out _).mono ?_); rintro e w2 ⟨rfl, hb2⟩; have hB' := below_go hB hb2; have i3' := i3.call hb2; have i45' := i45.call hb2; clear hB hb2 i3 i45; have hB := hB'; clear hB'; have i3 := i3'; clear i3'; have i45 := i45'; clear i45'; skip) | (refine store_BoardF rfl _ _ rfl _ sl rfl rfl (Has.new' (n := 16) rfl) ?_; intro w3 ho3 hn3))
            have hB' := below_fr hB ho3
            have i3' := has_fr i3 ho3
            have i45' := has_fr i45 ho3
            have i47 := hn3
            clear hB ho3 hn3 i3 i45
            have hB := hB'; clear hB'
            have i3 := i3'; clear i3'
            have i45 := i45'; clear i45'
            generalize w2.heap.size = Ei47 at *
            clear w2
            have hL1 : True := trivial
            go_upto_region 40 with (first | ((have hM := hL1); (refine load_BoardF rfl _ rfl _ _ rfl i47 ?_); (clear hM hL1)) | ((go_at_call 8); (with_reducible refine (T2.out _).mono ?_); rintro e w2 ⟨rfl, hb2⟩; have hB' := below_go hB hb2; have i3' := i3.call hb2; have i45' := i45.call hb2; have i47' := i47.call hb2; clear hB hb2 i3 i45 i47; have hB := hB'; clear hB'; have i3 := i3'; clear i3'; have i45 := i45'; clear i45'; have i47 := i47'; clear i47'; skip) | (refine store_BoardF rfl _ _ rfl _ af rfl rfl (Has.new' (n := 16) rfl) ?_; intro w3 ho3 hn3))
            have hB' := below_fr hB ho3
            have i3' := has_fr i3 ho3
            have i45' := has_fr i45 ho3
            have i47' := has_fr i47 ho3
            have i50 := hn3
            clear hB ho3 hn3 i3 i45 i47
            have hB := hB'; clear hB'
            have i3 := i3'; clear i3'
            have i45 := i45'; clear i45'
            have i47 := i47'; clear i47'
            generalize w2.heap.size = Ei50 at *
            clear w2
            have hL1 : True := trivial
            go_upto_region 41 with (first | ((have hM := hL1); (refine load_BoardF rfl _ rfl _ _ rfl i45 ?_); (clear hM hL1)) | ((go_at_call 21); (with_reducible refine (L2.out _).mono ?_); rintro e w2 ⟨rfl, hb2⟩; have hB' := below_go hB hb2; have i3' := i3.call hb2; have i45' := i45.call hb2; have i47' := i47.call hb2; have i50' := i50.call hb2; clear hB hb2 i3 i45 i47 i50; have hB := hB'; clear hB'; have i3 := i3'; clear i3'; have i45 := i45'; clear i45'; have i47 := i47'; clear i47'; have i50 := i50'; clear i50'; skip) | (refine store_BoardF rfl _ _ rfl _ dr rfl rfl (Has.new' (n := 16) rfl) ?_; intro w3 ho3 hn3))
            have hB' := below_fr hB ho3
            have i3' := has_fr i3 ho3
            have i45' := has_fr i45 ho3
            have i47' := has_fr i47 ho3
            have i50' := has_fr i50 ho3
            have i52 := hn3
            clear hB ho3 hn3 i3 i45 i47 i50
            have hB := hB'; clear hB'
            have i3 := i3'; clear i3'
            have i45 := i45'; clear i45'
            have i47 := i47'; clear i47'
            have i50 := i50'; clear i50'
            generalize w2.heap.size = Ei52 at *
            clear w2
            have hL1 : True := trivial
            have hL2 : True := trivial
            go_wp2_with (first | ((have hM := hL1); (refine load_BoardG _ rfl _ _ rfl i50 (by rfl) ?_); (clear hM hL1)) | ((have hM := hL2); (refine load_BoardG _ rfl _ _ rfl i52 (by rfl) ?_); (clear hM hL2)))
            go_ret
            exact ⟨rfl, hB⟩
        · have hxy : (inB x 0 7 && inB y 0 7) = true := HW.out.1.symm
          rw [Bool.and_eq_true] at hxy
          obtain ⟨X, hX, rfl⟩ := form_nat hxy.1
          obtain ⟨Y, hY, rfl⟩ := form_nat hxy.2
          have hXY := bhP_lt X hX Y hY
          obtain rfl : bo = ((bhP X Y : Nat) : Int) := by (have h := HW.out.2.1; rw [h, zr_true, Int.toNat_natCast, Int.toNat_natCast])
          obtain ⟨fi, hfi⟩ : ∃ fi : Nat → Int, fi = formB b X := ⟨_, rfl⟩
          obtain ⟨se, hse⟩ : ∃ se : Nat → Int, se = formB fi Y := ⟨_, rfl⟩
          obtain ⟨di, hdi⟩ : ∃ di : Nat → Int, di = formB b (bhP X Y) := ⟨_, rfl⟩
          have hbb := HB.out
          have hfb : bdB fi = true := by (rw [hfi]; exact bd_in17 (formB_in (bdB_in hbb) hX))
          have hq : eqB se di = true := by (rw [hse, hdi, hfi]; exact formB_form hX hY)
          have G1 : Hid (∀ w, Calls Try.prog 8 #[.agg #[.int .i64 (b 0), .int .i64 (b 1), .int .i64 (b 2), .int .i64 (b 3), .int .i64 (b 4), .int .i64 (b 5), .int .i64 (b 6), .int .i64 (b 7), .int .i64 (b 8), .int .i64 (b 9), .int .i64 (b 10), .int .i64 (b 11), .int .i64 (b 12), .int .i64 (b 13), .int .i64 (b 14), .int .i64 (b 15)], .int .i64 (X : Int)] w fun e w' => e = .returned (.tuple #[.agg #[.int .i64 (fi 0), .int .i64 (fi 1), .int .i64 (fi 2), .int .i64 (fi 3), .int .i64 (fi 4), .int .i64 (fi 5), .int .i64 (fi 6), .int .i64 (fi 7), .int .i64 (fi 8), .int .i64 (fi 9), .int .i64 (fi 10), .int .i64 (fi 11), .int .i64 (fi 12), .int .i64 (fi 13), .int .i64 (fi 14), .int .i64 (fi 15)], .bool true]) ∧ Below w.heap.size w w') := hide (by (have h := formBoard_any b (X : Int); rw [hbb, form_in hX, Int.toNat_natCast, ← hfi] at h; exact h))
          have G2 : Hid (∀ w, Calls Try.prog 8 #[.agg #[.int .i64 (fi 0), .int .i64 (fi 1), .int .i64 (fi 2), .int .i64 (fi 3), .int .i64 (fi 4), .int .i64 (fi 5), .int .i64 (fi 6), .int .i64 (fi 7), .int .i64 (fi 8), .int .i64 (fi 9), .int .i64 (fi 10), .int .i64 (fi 11), .int .i64 (fi 12), .int .i64 (fi 13), .int .i64 (fi 14), .int .i64 (fi 15)], .int .i64 (Y : Int)] w fun e w' => e = .returned (.tuple #[.agg #[.int .i64 (se 0), .int .i64 (se 1), .int .i64 (se 2), .int .i64 (se 3), .int .i64 (se 4), .int .i64 (se 5), .int .i64 (se 6), .int .i64 (se 7), .int .i64 (se 8), .int .i64 (se 9), .int .i64 (se 10), .int .i64 (se 11), .int .i64 (se 12), .int .i64 (se 13), .int .i64 (se 14), .int .i64 (se 15)], .bool true]) ∧ Below w.heap.size w w') := hide (by (have h := formBoard_any fi (Y : Int); rw [hfb, form_in hY, Int.toNat_natCast, ← hse] at h; exact h))
          have G3 : Hid (∀ w, Calls Try.prog 8 #[.agg #[.int .i64 (b 0), .int .i64 (b 1), .int .i64 (b 2), .int .i64 (b 3), .int .i64 (b 4), .int .i64 (b 5), .int .i64 (b 6), .int .i64 (b 7), .int .i64 (b 8), .int .i64 (b 9), .int .i64 (b 10), .int .i64 (b 11), .int .i64 (b 12), .int .i64 (b 13), .int .i64 (b 14), .int .i64 (b 15)], .int .i64 ((bhP X Y : Nat) : Int)] w fun e w' => e = .returned (.tuple #[.agg #[.int .i64 (di 0), .int .i64 (di 1), .int .i64 (di 2), .int .i64 (di 3), .int .i64 (di 4), .int .i64 (di 5), .int .i64 (di 6), .int .i64 (di 7), .int .i64 (di 8), .int .i64 (di 9), .int .i64 (di 10), .int .i64 (di 11), .int .i64 (di 12), .int .i64 (di 13), .int .i64 (di 14), .int .i64 (di 15)], .bool true]) ∧ Below w.heap.size w w') := hide (by (have h := formBoard_any b ((bhP X Y : Nat) : Int); rw [hbb, form_in hXY, Int.toNat_natCast, ← hdi] at h; exact h))
          have n3 := neq_B hq
          clear HW hxy hX hY hXY hfi hse hdi hbb hfb hq
          have hL1 : True := trivial
          go_upto_region 32 with (first | ((have hM := hL1); (refine load_BoardF rfl _ rfl _ _ rfl i3 ?_); (clear hM hL1)) | ((go_at_call 8); (with_reducible refine (G1.out _).mono ?_); rintro e w2 ⟨rfl, hb2⟩; have hB' := below_go hB hb2; have i3' := i3.call hb2; clear hB hb2 i3; have hB := hB'; clear hB'; have i3 := i3'; clear i3'; skip) | (refine store_BoardF rfl _ _ rfl _ fi rfl rfl (Has.new' (n := 16) rfl) ?_; intro w3 ho3 hn3))
          have hB' := below_fr hB ho3
          have i3' := has_fr i3 ho3
          have i39 := hn3
          clear hB ho3 hn3 i3
          have hB := hB'; clear hB'
          have i3 := i3'; clear i3'
          generalize w2.heap.size = Ei39 at *
          clear w2
          have hL1 : True := trivial
          go_upto_region 33 with (first | ((have hM := hL1); (refine load_BoardF rfl _ rfl _ _ rfl i39 ?_); (clear hM hL1)) | ((go_at_call 8); (with_reducible refine (G2.out _).mono ?_); rintro e w2 ⟨rfl, hb2⟩; have hB' := below_go hB hb2; have i3' := i3.call hb2; have i39' := i39.call hb2; clear hB hb2 i3 i39; have hB := hB'; clear hB'; have i3 := i3'; clear i3'; have i39 := i39'; clear i39'; skip) | (refine store_BoardF rfl _ _ rfl _ se rfl rfl (Has.new' (n := 16) rfl) ?_; intro w3 ho3 hn3))
          have hB' := below_fr hB ho3
          have i3' := has_fr i3 ho3
          have i39' := has_fr i39 ho3
          have i41 := hn3
          clear hB ho3 hn3 i3 i39
          have hB := hB'; clear hB'
          have i3 := i3'; clear i3'
          have i39 := i39'; clear i39'
          generalize w2.heap.size = Ei41 at *
          clear w2
          have hL1 : True := trivial
          go_upto_region 34 with (first | ((have hM := hL1); (refine load_BoardF rfl _ rfl _ _ rfl i3 ?_); (clear hM hL1)) | ((go_at_call 8); (with_reducible refine (G3.out _).mono ?_); rintro e w2 ⟨rfl, hb2⟩; have hB' := below_go hB hb2; have i3' := i3.call hb2; have i39' := i39.call hb2; have i41' := i41.call hb2; clear hB hb2 i3 i39 i41; have hB := hB'; clear hB'; have i3 := i3'; clear i3'; have i39 := i39'; clear i39'; have i41 := i41'; clear i41'; skip) | (refine store_BoardF rfl _ _ rfl _ di rfl rfl (Has.new' (n := 16) rfl) ?_; intro w3 ho3 hn3))
          have hB' := below_fr hB ho3
          have i3' := has_fr i3 ho3
          have i39' := has_fr i39 ho3
          have i41' := has_fr i41 ho3
          have i43 := hn3
          clear hB ho3 hn3 i3 i39 i41
          have hB := hB'; clear hB'
          have i3 := i3'; clear i3'
          have i39 := i39'; clear i39'
          have i41 := i41'; clear i41'
          generalize w2.heap.size = Ei43 at *
          clear w2
          have hL1 : True := trivial
          have hL2 : True := trivial
          go_upto_region 36 with (first | ((have hM := hL1); (refine load_BoardG _ rfl _ _ rfl i41 (by rfl) ?_); (clear hM hL1)) | ((have hM := hL2); (refine load_BoardG _ rfl _ _ rfl i43 (by rfl) ?_); (clear hM hL2)))
          clear n3 G1 G2 G3 i39 i41 i43
          cases pS
          · skip
            go_wp2_with (first | fail)
            go_ret
            exact ⟨rfl, hB⟩
          · have hfd : (inB f 0 7 && inB d 0 3) = true := HX.out.1.symm
            rw [Bool.and_eq_true] at hfd
            obtain ⟨F, hF, rfl⟩ := form_nat hfd.1
            obtain ⟨D, hD, rfl⟩ := dir_nat hfd.2
            have hss := sd_first F hF D hD
            obtain rfl : si = ((sdP F D : Nat) : Int) := by (have h := HX.out.2.1; rw [h, zr_true, Int.toNat_natCast, Int.toNat_natCast, hss.2.1])
            obtain ⟨tu, htu⟩ : ∃ tu : Nat → Int, tu = formB b F := ⟨_, rfl⟩
            obtain ⟨sl, hsl⟩ : ∃ sl : Nat → Int, sl = slB b D := ⟨_, rfl⟩
            obtain ⟨sc, hsc⟩ : ∃ sc : Int, sc = scTo b D 4 := ⟨_, rfl⟩
            obtain ⟨af, haf⟩ : ∃ af : Nat → Int, af = formB sl F := ⟨_, rfl⟩
            obtain ⟨dr, hdr⟩ : ∃ dr : Nat → Int, dr = slB tu (sdP F D) := ⟨_, rfl⟩
            have hbb := HB.out; have hib := bdB_in hbb
            have htb : bdB tu = true := by (rw [htu]; exact bd_in17 (formB_in hib hF))
            have hsb : bdB sl = true := by (rw [hsl]; exact bd_in17 (slB_in hib))
            have hq : eqB af dr = true := by (rw [haf, hdr, hsl, htu]; exact slB_form b hF hD)
            have hsc2 : scTo tu (sdP F D) 4 = sc := by (rw [htu, hsc]; exact scTo_form b hF hD)
            have T1 : Hid (∀ w, Calls Try.prog 8 #[.agg #[.int .i64 (b 0), .int .i64 (b 1), .int .i64 (b 2), .int .i64 (b 3), .int .i64 (b 4), .int .i64 (b 5), .int .i64 (b 6), .int .i64 (b 7), .int .i64 (b 8), .int .i64 (b 9), .int .i64 (b 10), .int .i64 (b 11), .int .i64 (b 12), .int .i64 (b 13), .int .i64 (b 14), .int .i64 (b 15)], .int .i64 (F : Int)] w fun e w' => e = .returned (.tuple #[.agg #[.int .i64 (tu 0), .int .i64 (tu 1), .int .i64 (tu 2), .int .i64 (tu 3), .int .i64 (tu 4), .int .i64 (tu 5), .int .i64 (tu 6), .int .i64 (tu 7), .int .i64 (tu 8), .int .i64 (tu 9), .int .i64 (tu 10), .int .i64 (tu 11), .int .i64 (tu 12), .int .i64 (tu 13), .int .i64 (tu 14), .int .i64 (tu 15)], .bool true]) ∧ Below w.heap.size w w') := hide (by (have h := formBoard_any b (F : Int); rw [hbb, form_in hF, Int.toNat_natCast, ← htu] at h; exact h))
            have L1 : Hid (∀ w, Calls Try.prog 21 #[.agg #[.int .i64 (b 0), .int .i64 (b 1), .int .i64 (b 2), .int .i64 (b 3), .int .i64 (b 4), .int .i64 (b 5), .int .i64 (b 6), .int .i64 (b 7), .int .i64 (b 8), .int .i64 (b 9), .int .i64 (b 10), .int .i64 (b 11), .int .i64 (b 12), .int .i64 (b 13), .int .i64 (b 14), .int .i64 (b 15)], .int .i64 (D : Int)] w fun e w' => e = .returned (.tuple #[.agg #[.int .i64 (sl 0), .int .i64 (sl 1), .int .i64 (sl 2), .int .i64 (sl 3), .int .i64 (sl 4), .int .i64 (sl 5), .int .i64 (sl 6), .int .i64 (sl 7), .int .i64 (sl 8), .int .i64 (sl 9), .int .i64 (sl 10), .int .i64 (sl 11), .int .i64 (sl 12), .int .i64 (sl 13), .int .i64 (sl 14), .int .i64 (sl 15)], .int .i64 sc, .bool true]) ∧ Below w.heap.size w w') := hide (by (have h := slideBoard_any b (D : Int); rw [hbb, dir_in hD, Int.toNat_natCast, ← hsl, ← hsc] at h; exact h))
            have T2 : Hid (∀ w, Calls Try.prog 8 #[.agg #[.int .i64 (sl 0), .int .i64 (sl 1), .int .i64 (sl 2), .int .i64 (sl 3), .int .i64 (sl 4), .int .i64 (sl 5), .int .i64 (sl 6), .int .i64 (sl 7), .int .i64 (sl 8), .int .i64 (sl 9), .int .i64 (sl 10), .int .i64 (sl 11), .int .i64 (sl 12), .int .i64 (sl 13), .int .i64 (sl 14), .int .i64 (sl 15)], .int .i64 (F : Int)] w fun e w' => e = .returned (.tuple #[.agg #[.int .i64 (af 0), .int .i64 (af 1), .int .i64 (af 2), .int .i64 (af 3), .int .i64 (af 4), .int .i64 (af 5), .int .i64 (af 6), .int .i64 (af 7), .int .i64 (af 8), .int .i64 (af 9), .int .i64 (af 10), .int .i64 (af 11), .int .i64 (af 12), .int .i64 (af 13), .int .i64 (af 14), .int .i64 (af 15)], .bool true]) ∧ Below w.heap.size w w') := hide (by (have h := formBoard_any sl (F : Int); rw [hsb, form_in hF, Int.toNat_natCast, ← haf] at h; exact h))
            have L2 : Hid (∀ w, Calls Try.prog 21 #[.agg #[.int .i64 (tu 0), .int .i64 (tu 1), .int .i64 (tu 2), .int .i64 (tu 3), .int .i64 (tu 4), .int .i64 (tu 5), .int .i64 (tu 6), .int .i64 (tu 7), .int .i64 (tu 8), .int .i64 (tu 9), .int .i64 (tu 10), .int .i64 (tu 11), .int .i64 (tu 12), .int .i64 (tu 13), .int .i64 (tu 14), .int .i64 (tu 15)], .int .i64 ((sdP F D : Nat) : Int)] w fun e w' => e = .returned (.tuple #[.agg #[.int .i64 (dr 0), .int .i64 (dr 1), .int .i64 (dr 2), .int .i64 (dr 3), .int .i64 (dr 4), .int .i64 (dr 5), .int .i64 (dr 6), .int .i64 (dr 7), .int .i64 (dr 8), .int .i64 (dr 9), .int .i64 (dr 10), .int .i64 (dr 11), .int .i64 (dr 12), .int .i64 (dr 13), .int .i64 (dr 14), .int .i64 (dr 15)], .int .i64 sc, .bool true]) ∧ Below w.heap.size w w') := hide (by (have h := slideBoard_any tu ((sdP F D : Nat) : Int); rw [htb, dir_in hss.1, Int.toNat_natCast, ← hdr, hsc2] at h; exact h))
            have n4 := neq_B hq
            clear HB HX hfd hF hD hss htu hsl hsc haf hdr hbb hib htb hsb hq hsc2
            have hL1 : True := trivial
            go_upto_region 38 with (first | ((have hM := hL1); (refine load_BoardF rfl _ rfl _ _ rfl i3 ?_); (clear hM hL1)) | ((go_at_call 8); (with_reducible refine (T1.out _).mono ?_); rintro e w2 ⟨rfl, hb2⟩; have hB' := below_go hB hb2; have i3' := i3.call hb2; clear hB hb2 i3; have hB := hB'; clear hB'; have i3 := i3'; clear i3'; skip) | (refine store_BoardF rfl _ _ rfl _ tu rfl rfl (Has.new' (n := 16) rfl) ?_; intro w3 ho3 hn3))
            have hB' := below_fr hB ho3
            have i3' := has_fr i3 ho3
            have i45 := hn3
            clear hB ho3 hn3 i3
            have hB := hB'; clear hB'
            have i3 := i3'; clear i3'
            generalize w2.heap.size = Ei45 at *
            clear w2
            have hL1 : True := trivial
            go_upto_region 39 with (first | ((have hM := hL1); (refine load_BoardF rfl _ rfl _ _ rfl i3 ?_); (clear hM hL1)) | ((go_at_call 21); (with_reducible refine (L1.out _).mono ?_); rintro e w2 ⟨rfl, hb2⟩; have hB' := below_go hB hb2; have i3' := i3.call hb2; have i45' := i45.call hb2; clear hB hb2 i3 i45; have hB := hB'; clear hB'; have i3 := i3'; clear i3'; have i45 := i45'; clear i45'; skip) | (refine store_BoardF rfl _ _ rfl _ sl rfl rfl (Has.new' (n := 16) rfl) ?_; intro w3 ho3 hn3))
            have hB' := below_fr hB ho3
            have i3' := has_fr i3 ho3
            have i45' := has_fr i45 ho3
            have i47 := hn3
            clear hB ho3 hn3 i3 i45
            have hB := hB'; clear hB'
            have i3 := i3'; clear i3'
            have i45 := i45'; clear i45'
            generalize w2.heap.size = Ei47 at *
            clear w2
            have hL1 : True := trivial
            go_upto_region 40 with (first | ((have hM := hL1); (refine load_BoardF rfl _ rfl _ _ rfl i47 ?_); (clear hM hL1)) | ((go_at_call 8); (with_reducible refine (T2.out _).mono ?_); rintro e w2 ⟨rfl, hb2⟩; have hB' := below_go hB hb2; have i3' := i3.call hb2; have i45' := i45.call hb2; have i47' := i47.call hb2; clear hB hb2 i3 i45 i47; have hB := hB'; clear hB'; have i3 := i3'; clear i3'; have i45 := i45'; clear i45'; have i47 := i47'; clear i47'; skip) | (refine store_BoardF rfl _ _ rfl _ af rfl rfl (Has.new' (n := 16) rfl) ?_; intro w3 ho3 hn3))
            have hB' := below_fr hB ho3
            have i3' := has_fr i3 ho3
            have i45' := has_fr i45 ho3
            have i47' := has_fr i47 ho3
            have i50 := hn3
            clear hB ho3 hn3 i3 i45 i47
            have hB := hB'; clear hB'
            have i3 := i3'; clear i3'
            have i45 := i45'; clear i45'
            have i47 := i47'; clear i47'
            generalize w2.heap.size = Ei50 at *
            clear w2
            have hL1 : True := trivial
            go_upto_region 41 with (first | ((have hM := hL1); (refine load_BoardF rfl _ rfl _ _ rfl i45 ?_); (clear hM hL1)) | ((go_at_call 21); (with_reducible refine (L2.out _).mono ?_); rintro e w2 ⟨rfl, hb2⟩; have hB' := below_go hB hb2; have i3' := i3.call hb2; have i45' := i45.call hb2; have i47' := i47.call hb2; have i50' := i50.call hb2; clear hB hb2 i3 i45 i47 i50; have hB := hB'; clear hB'; have i3 := i3'; clear i3'; have i45 := i45'; clear i45'; have i47 := i47'; clear i47'; have i50 := i50'; clear i50'; skip) | (refine store_BoardF rfl _ _ rfl _ dr rfl rfl (Has.new' (n := 16) rfl) ?_; intro w3 ho3 hn3))
            have hB' := below_fr hB ho3
            have i3' := has_fr i3 ho3
            have i45' := has_fr i45 ho3
            have i47' := has_fr i47 ho3
            have i50' := has_fr i50 ho3
            have i52 := hn3
            clear hB ho3 hn3 i3 i45 i47 i50
            have hB := hB'; clear hB'
            have i3 := i3'; clear i3'
            have i45 := i45'; clear i45'
            have i47 := i47'; clear i47'
            have i50 := i50'; clear i50'
            generalize w2.heap.size = Ei52 at *
            clear w2
            have hL1 : True := trivial
            have hL2 : True := trivial
            go_wp2_with (first | ((have hM := hL1); (refine load_BoardG _ rfl _ _ rfl i50 (by rfl) ?_); (clear hM hL1)) | ((have hM := hL2); (refine load_BoardG _ rfl _ _ rfl i52 (by rfl) ?_); (clear hM hL2)))
            go_ret
            exact ⟨rfl, hB⟩

namespace fnFormGroup
set_option maxRecDepth 100000 in
theorem lifted (os : Os) (started : os.Started) (H : Type) (enc : TypeId × Value → H) :
    ReturnsInHanded {} Try.checked os 3 .any (Rows.fnFormGroupSpec.pre6 enc Try.prog Try.f3 Rows.fnFormGroupRow.domain false) (Rows.fnFormGroupSpec.post enc Try.prog Try.f3 false true false false) := by
  refine returnsInHanded_of_change_sized (C := Try.checked) own started (by kernel_rfl) Try.func3
    (ChangeSpec.witness6 (enc := enc) (C := Try.checked) false ⟨#[], #[.slice none 0 0], []⟩ 8 (by kernel_rfl) (by kernel_rfl) (by kernel_rfl) (by kernel_rfl)) ?_
  intro W base args ds gs before hval0 hW hcnd hsz0 _
  have hval : ∀ (j : Nat) t v, Try.f3.params[j]? = some t → args[j]? = some v → Value.okWide Try.prog W .any base t v := hval0
  have hW' := hW
  obtain ⟨p, q, hA0, hV, rfl, hfz, hnd⟩ := hW
  have hA : DataW.TrodAll enc Try.prog W 0 (fun _ => true) true Try.f3.params.toList args.toList ds p := hA0
  have hA1 := hA
  rw [Try.params3] at hA hval
  obtain ⟨v0, vs0, d0, ds0, p0, q0, hargs, rfl, rfl, h0, r0⟩ := trodAll_cons hA
  obtain ⟨rfl, rfl, rfl⟩ := trodAll_nil r0
  obtain rfl : args = #[v0] := by cases args; simp_all
  obtain ⟨rfl, rfl⟩ := trodVars_none hV
  obtain ⟨A0, n0, cap0, x0, rfl, c0, b0⟩ := code_arg Try.underlying22 Try.underlying5 (by kernel_rfl) (hval 0 22 v0 rfl rfl) h0
  have keep : ∀ W', Below W.heap.size W W' → DataW.TrodAll enc Try.prog W' 0 (fun b => decide (b < W.heap.size)) true Try.f3.params.toList _ _ _ := fun W' hb => trodAll_below laidOut hb (by kernel_rfl) hA1
  refine (walk W A0 n0 cap0 x0 c0 b0).mono fun e W' ⟨he, bel⟩ => ?_
  subst he
  exact ⟨_, rfl, _, _, _, [], _, [], hW', trodAll_mk1 (shut_bool Try.underlying4 _), keep W' bel, rfl, bel.frame _, fun h => by cases h⟩
set_option maxRecDepth 100000 in
set_option maxHeartbeats 8000000 in
theorem closed : joinedFacts Try.prog 3 Try.f3 Rows.fnFormGroupSpec Rows.fnFormGroupRow = true := by
  unfold joinedFacts
  refine and2 (and2 (and2 (and2 (and2 (and2 (and2 ?_ Head.mayEnter) ?_) ?_) ?_) ?_) ?_) ?_
  · refine and2 (and2 (and2 (and2 (and2 (and2 (and2 (and2 (and2 (and2 (and2 (and2 (and2 (and2 (and2 ?_ ?_) ?_) ?_) ?_) ?_) ?_) ?_) ?_) ?_) ?_) ?_) ?_) ?_) ?_) ?_
    all_goals (as_aux_lemma => kernel_rfl)
  · rw [Head.liftsFinal]; kernel_rfl
  · rw [Head.make]; kernel_rfl
  all_goals (as_aux_lemma => kernel_rfl)
theorem proved : Rows.FnFormGroupSaid :=
  OpenClaim.holds_of_wide 3 Try.f3 rfl rfl rfl rfl rfl rfl rfl ⟨rfl, rfl, rfl, rfl, rfl⟩ rfl rfl rfl rfl rfl (by kernel_rfl) Try.func3 closed
    (of_decide_eq_true (by kernel_rfl)) (by unfold Func.isWrapper; first | (rw [if_pos (by decide +kernel)]; kernel_rfl) | (rw [if_neg (by decide +kernel)]; exact ⟨rfl, rfl⟩))
    (fun os started H enc _ => lifted os started H enc)
end fnFormGroup
theorem fnFormGroup_holds : Rows.FnFormGroupSaid := fnFormGroup.proved
#print axioms fnFormGroup_holds
end Go.Proofs.Ytegdnfmhhigjfaa
