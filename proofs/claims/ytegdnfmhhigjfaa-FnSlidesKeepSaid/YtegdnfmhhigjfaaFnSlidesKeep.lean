/- For every slice of bytes the law FnSlidesKeep answers true: a slide keeps the sum of all worths, makes as many mergers as tiles get fewer, and a second one moves only what has merged. No condition. -/
import Derived.Test.YtegdnfmhhigjfaaWrap
import Derived.Test.YtegdnfmhhigjfaaQSkD
import Derived.Test.YtegdnfmhhigjfaaQSumOf
import Derived.Test.YtegdnfmhhigjfaaPairs3
import Derived.Test.YtegdnfmhhigjfaaSlideBd
import Derived.Test.YtegdnfmhhigjfaaQEmptyCells
import Derived.IntWalk
set_option linter.unusedVariables false
namespace Go.Proofs.Ytegdnfmhhigjfaa
open Go.ChangeShapes Go.WideShapes Go.ChangeAt Go.RowKit
open Go.ChangeMaps (open_string shut_string)

set_option maxHeartbeats 64000000 in
set_option maxRecDepth 100000 in
theorem fnSlidesKeep.walk (w : World) (A0 : Option Addr) (n0 cap0 : Nat) (x0 : Nat → Nat) (b0 : Hid (ArgB w A0 n0 x0)) :
    Calls Try.prog 4 #[.slice A0 n0 cap0] w fun e w' => e = .returned (.bool true) ∧ Below w.heap.size w w' := by
  go_enter Try.func4, Try.ntmps4
  by_cases hbig : 65536 < n0
  · have hbi : (65536 : Int) < n0 := by omega
    go_wp2_with ((go_at_call 22); go_in)
    go_ret
    exact ⟨rfl, Below.refl _ _⟩
  · have hbi : ¬ (65536 : Int) < n0 := by omega
    have HD := hide (drawSlideBoard_any A0 n0 cap0 x0 (by omega) w b0.out)
    clear hbig b0
    go_upto_region 4 with (first | ((go_at_call 22); go_in) | ((go_at_call 23); (with_reducible refine HD.out.mono ?_); rintro e w2 ⟨b, d, rfl, hBI, hd, hB⟩) | (refine store_BoardF rfl _ _ rfl _ b rfl rfl (Has.new' (n := 16) rfl) ?_; intro w3 ho3 hn3))
    clear HD hBI hbi hd
    have hB' := below_fr hB ho3
    have i3 := hn3
    clear hB ho3 hn3 
    have hB := hB'; clear hB'
    generalize w2.heap.size = Ei3 at *
    clear w2
    obtain ⟨pB, hpB⟩ : ∃ pB : Bool, pB = bdB b := ⟨_, rfl⟩
    obtain ⟨pO, hpO⟩ : ∃ pO : Bool, pO = (bdB b && inB d 0 3) := ⟨_, rfl⟩
    obtain ⟨nx, hnx⟩ : ∃ nx : Nat → Int, nx = bz pO (slB b d.toNat) := ⟨_, rfl⟩
    obtain ⟨sc, hsc⟩ : ∃ sc : Int, sc = zr pO (scTo b d.toNat 4) := ⟨_, rfl⟩
    obtain ⟨mg, hmg⟩ : ∃ mg : Int, mg = zr pO (mgTo b d.toNat 4) := ⟨_, rfl⟩
    obtain ⟨ml, hml⟩ : ∃ ml : List Nat, ml = mvO b := ⟨_, rfl⟩
    obtain ⟨nm, hnm⟩ : ∃ nm : Nat, nm = ml.length := ⟨_, rfl⟩
    obtain ⟨ov, hov⟩ : ∃ ov : Bool, ov = (pB && ovB b) := ⟨_, rfl⟩
    obtain ⟨su, hsu⟩ : ∃ su : Int, su = zr pB (smT b 16) := ⟨_, rfl⟩
    obtain ⟨ep, hep⟩ : ∃ ep : Int, ep = zr pB (prS b 4) := ⟨_, rfl⟩
    obtain ⟨el, hel⟩ : ∃ el : List Nat, el = emO b := ⟨_, rfl⟩
    obtain ⟨ne, hne⟩ : ∃ ne : Nat, ne = el.length := ⟨_, rfl⟩
    have hnm4 : nm ≤ 4 := by rw [hnm, hml]; exact mvO_len b
    have hne16 : ne ≤ 16 := by rw [hne, hel]; exact emO_len b
    have F1 : Hid (∀ w, Calls Try.prog 21 #[.agg #[.int .i64 (b 0), .int .i64 (b 1), .int .i64 (b 2), .int .i64 (b 3), .int .i64 (b 4), .int .i64 (b 5), .int .i64 (b 6), .int .i64 (b 7), .int .i64 (b 8), .int .i64 (b 9), .int .i64 (b 10), .int .i64 (b 11), .int .i64 (b 12), .int .i64 (b 13), .int .i64 (b 14), .int .i64 (b 15)], .int .i64 d] w fun e w' => e = .returned (.tuple #[.agg #[.int .i64 (nx 0), .int .i64 (nx 1), .int .i64 (nx 2), .int .i64 (nx 3), .int .i64 (nx 4), .int .i64 (nx 5), .int .i64 (nx 6), .int .i64 (nx 7), .int .i64 (nx 8), .int .i64 (nx 9), .int .i64 (nx 10), .int .i64 (nx 11), .int .i64 (nx 12), .int .i64 (nx 13), .int .i64 (nx 14), .int .i64 (nx 15)], .int .i64 sc, .bool pO]) ∧ Below w.heap.size w w') := hide (by rw [hnx, hsc, hpO]; exact slideBoard_any b d)
    have F2 : Hid (∀ w, Calls Try.prog 24 #[.agg #[.int .i64 (b 0), .int .i64 (b 1), .int .i64 (b 2), .int .i64 (b 3), .int .i64 (b 4), .int .i64 (b 5), .int .i64 (b 6), .int .i64 (b 7), .int .i64 (b 8), .int .i64 (b 9), .int .i64 (b 10), .int .i64 (b 11), .int .i64 (b 12), .int .i64 (b 13), .int .i64 (b 14), .int .i64 (b 15)], .int .i64 d] w fun e w' => e = .returned (.tuple #[.agg #[.int .i64 (nx 0), .int .i64 (nx 1), .int .i64 (nx 2), .int .i64 (nx 3), .int .i64 (nx 4), .int .i64 (nx 5), .int .i64 (nx 6), .int .i64 (nx 7), .int .i64 (nx 8), .int .i64 (nx 9), .int .i64 (nx 10), .int .i64 (nx 11), .int .i64 (nx 12), .int .i64 (nx 13), .int .i64 (nx 14), .int .i64 (nx 15)], .int .i64 sc, .bool pO]) ∧ Below w.heap.size w w') := hide (by rw [hnx, hsc, hpO]; exact specSlideBoard_any b d)
    have M1 : Hid (∀ w, Calls Try.prog 25 #[.agg #[.int .i64 (b 0), .int .i64 (b 1), .int .i64 (b 2), .int .i64 (b 3), .int .i64 (b 4), .int .i64 (b 5), .int .i64 (b 6), .int .i64 (b 7), .int .i64 (b 8), .int .i64 (b 9), .int .i64 (b 10), .int .i64 (b 11), .int .i64 (b 12), .int .i64 (b 13), .int .i64 (b 14), .int .i64 (b 15)]] w fun e w' => ∃ A cap, e = .returned (.tuple #[.slice A nm cap, .bool pB]) ∧ Sl w' w.heap.size A nm (fI ml) ∧ Below w.heap.size w w') := hide (by rw [hnm, hml, hpB]; exact movesOf_own b)
    have M2 : Hid (∀ w, Calls Try.prog 26 #[.agg #[.int .i64 (b 0), .int .i64 (b 1), .int .i64 (b 2), .int .i64 (b 3), .int .i64 (b 4), .int .i64 (b 5), .int .i64 (b 6), .int .i64 (b 7), .int .i64 (b 8), .int .i64 (b 9), .int .i64 (b 10), .int .i64 (b 11), .int .i64 (b 12), .int .i64 (b 13), .int .i64 (b 14), .int .i64 (b 15)]] w fun e w' => ∃ A cap, e = .returned (.tuple #[.slice A nm cap, .bool pB]) ∧ Sl w' w.heap.size A nm (fI ml) ∧ Below w.heap.size w w') := hide (by rw [hnm, hml, hpB]; exact specMovesOf_own b)
    have B1 : Hid (∀ w, Calls Try.prog 27 #[.agg #[.int .i64 (b 0), .int .i64 (b 1), .int .i64 (b 2), .int .i64 (b 3), .int .i64 (b 4), .int .i64 (b 5), .int .i64 (b 6), .int .i64 (b 7), .int .i64 (b 8), .int .i64 (b 9), .int .i64 (b 10), .int .i64 (b 11), .int .i64 (b 12), .int .i64 (b 13), .int .i64 (b 14), .int .i64 (b 15)]] w fun e w' => e = .returned (.bool pB) ∧ Below w.heap.size w w') := hide (by rw [hpB]; exact isBoard_any b)
    have O1 : Hid (∀ w, Calls Try.prog 29 #[.agg #[.int .i64 (b 0), .int .i64 (b 1), .int .i64 (b 2), .int .i64 (b 3), .int .i64 (b 4), .int .i64 (b 5), .int .i64 (b 6), .int .i64 (b 7), .int .i64 (b 8), .int .i64 (b 9), .int .i64 (b 10), .int .i64 (b 11), .int .i64 (b 12), .int .i64 (b 13), .int .i64 (b 14), .int .i64 (b 15)]] w fun e w' => e = .returned (.tuple #[.bool ov, .bool pB]) ∧ Below w.heap.size w w') := hide (by rw [hov, hpB]; exact isOverX_any b)
    have O2 : Hid (∀ w, Calls Try.prog 30 #[.agg #[.int .i64 (b 0), .int .i64 (b 1), .int .i64 (b 2), .int .i64 (b 3), .int .i64 (b 4), .int .i64 (b 5), .int .i64 (b 6), .int .i64 (b 7), .int .i64 (b 8), .int .i64 (b 9), .int .i64 (b 10), .int .i64 (b 11), .int .i64 (b 12), .int .i64 (b 13), .int .i64 (b 14), .int .i64 (b 15)]] w fun e w' => e = .returned (.tuple #[.bool ov, .bool pB]) ∧ Below w.heap.size w w') := hide (by rw [hov, hpB]; exact specIsOver_any b)
    have G1 : Hid (∀ w, Calls Try.prog 31 #[.agg #[.int .i64 (b 0), .int .i64 (b 1), .int .i64 (b 2), .int .i64 (b 3), .int .i64 (b 4), .int .i64 (b 5), .int .i64 (b 6), .int .i64 (b 7), .int .i64 (b 8), .int .i64 (b 9), .int .i64 (b 10), .int .i64 (b 11), .int .i64 (b 12), .int .i64 (b 13), .int .i64 (b 14), .int .i64 (b 15)], .int .i64 d] w fun e w' => e = .returned (.tuple #[.int .i64 mg, .bool pO]) ∧ Below w.heap.size w w') := hide (by rw [hmg, hpO]; exact mergersOf_any b d)
    have G2 : Hid (∀ w, Calls Try.prog 32 #[.agg #[.int .i64 (b 0), .int .i64 (b 1), .int .i64 (b 2), .int .i64 (b 3), .int .i64 (b 4), .int .i64 (b 5), .int .i64 (b 6), .int .i64 (b 7), .int .i64 (b 8), .int .i64 (b 9), .int .i64 (b 10), .int .i64 (b 11), .int .i64 (b 12), .int .i64 (b 13), .int .i64 (b 14), .int .i64 (b 15)], .int .i64 d] w fun e w' => e = .returned (.tuple #[.int .i64 mg, .bool pO]) ∧ Below w.heap.size w w') := hide (by rw [hmg, hpO]; exact specMergersOf_any b d)
    have S1 : Hid (∀ w, Calls Try.prog 19 #[.agg #[.int .i64 (b 0), .int .i64 (b 1), .int .i64 (b 2), .int .i64 (b 3), .int .i64 (b 4), .int .i64 (b 5), .int .i64 (b 6), .int .i64 (b 7), .int .i64 (b 8), .int .i64 (b 9), .int .i64 (b 10), .int .i64 (b 11), .int .i64 (b 12), .int .i64 (b 13), .int .i64 (b 14), .int .i64 (b 15)]] w fun e w' => e = .returned (.tuple #[.int .i64 su, .bool pB]) ∧ Below w.heap.size w w') := hide (by rw [hsu, hpB]; exact sumOf_any b)
    have S2 : Hid (∀ w, Calls Try.prog 33 #[.agg #[.int .i64 (b 0), .int .i64 (b 1), .int .i64 (b 2), .int .i64 (b 3), .int .i64 (b 4), .int .i64 (b 5), .int .i64 (b 6), .int .i64 (b 7), .int .i64 (b 8), .int .i64 (b 9), .int .i64 (b 10), .int .i64 (b 11), .int .i64 (b 12), .int .i64 (b 13), .int .i64 (b 14), .int .i64 (b 15)]] w fun e w' => e = .returned (.tuple #[.int .i64 su, .bool pB]) ∧ Below w.heap.size w w') := hide (by rw [hsu, hpB]; exact specSumOf_any b)
    have E1 : Hid (∀ w, Calls Try.prog 20 #[.agg #[.int .i64 (b 0), .int .i64 (b 1), .int .i64 (b 2), .int .i64 (b 3), .int .i64 (b 4), .int .i64 (b 5), .int .i64 (b 6), .int .i64 (b 7), .int .i64 (b 8), .int .i64 (b 9), .int .i64 (b 10), .int .i64 (b 11), .int .i64 (b 12), .int .i64 (b 13), .int .i64 (b 14), .int .i64 (b 15)]] w fun e w' => e = .returned (.tuple #[.int .i64 ep, .bool pB]) ∧ Below w.heap.size w w') := hide (by rw [hep, hpB]; exact equalPairs_any b)
    have E2 : Hid (∀ w, Calls Try.prog 34 #[.agg #[.int .i64 (b 0), .int .i64 (b 1), .int .i64 (b 2), .int .i64 (b 3), .int .i64 (b 4), .int .i64 (b 5), .int .i64 (b 6), .int .i64 (b 7), .int .i64 (b 8), .int .i64 (b 9), .int .i64 (b 10), .int .i64 (b 11), .int .i64 (b 12), .int .i64 (b 13), .int .i64 (b 14), .int .i64 (b 15)]] w fun e w' => e = .returned (.tuple #[.int .i64 ep, .bool pB]) ∧ Below w.heap.size w w') := hide (by rw [hep, hpB]; exact specEqualPairs_any b)
    have C1 : Hid (∀ w, Calls Try.prog 35 #[.agg #[.int .i64 (b 0), .int .i64 (b 1), .int .i64 (b 2), .int .i64 (b 3), .int .i64 (b 4), .int .i64 (b 5), .int .i64 (b 6), .int .i64 (b 7), .int .i64 (b 8), .int .i64 (b 9), .int .i64 (b 10), .int .i64 (b 11), .int .i64 (b 12), .int .i64 (b 13), .int .i64 (b 14), .int .i64 (b 15)]] w fun e w' => ∃ A cap, e = .returned (.tuple #[.slice A ne cap, .bool pB]) ∧ Sl w' w.heap.size A (ne * 2) (fI (plF el)) ∧ Below w.heap.size w w') := hide (by rw [hne, hel, hpB]; exact emptyCells_own b)
    have n1 := neq_B (eqB_refl nx)
    have HM := hide hnm
    have HV := hide (And.intro hpB (And.intro hpO (And.intro hnx (And.intro hsc (And.intro hmg (And.intro hml (And.intro hnm (And.intro hov (And.intro hsu (And.intro hep (And.intro hel hne)))))))))))
    clear hpB hpO hnx hsc hmg hml hnm hov hsu hep hel hne
    have hL1 : True := trivial
    go_upto_region 5 with (first | ((have hM := hL1); (refine load_BoardF rfl _ rfl _ _ rfl i3 ?_); (clear hM hL1)) | ((go_at_call 21); (with_reducible refine (F1.out _).mono ?_); rintro e w2 ⟨rfl, hb2⟩; have hB' := below_go hB hb2; have i3' := i3.call hb2; clear hB hb2 i3; have hB := hB'; clear hB'; have i3 := i3'; clear i3'; skip) | (refine store_BoardF rfl _ _ rfl _ nx rfl rfl (Has.new' (n := 16) rfl) ?_; intro w3 ho3 hn3))
    have hB' := below_fr hB ho3
    have i3' := has_fr i3 ho3
    have i5 := hn3
    clear hB ho3 hn3 i3
    have hB := hB'; clear hB'
    have i3 := i3'; clear i3'
    generalize w2.heap.size = Ei5 at *
    clear w2
    have hL1 : True := trivial
    go_upto_region 6 with (first | ((have hM := hL1); (refine load_BoardF rfl _ rfl _ _ rfl i3 ?_); (clear hM hL1)) | ((go_at_call 24); (with_reducible refine (F2.out _).mono ?_); rintro e w2 ⟨rfl, hb2⟩; have hB' := below_go hB hb2; have i3' := i3.call hb2; have i5' := i5.call hb2; clear hB hb2 i3 i5; have hB := hB'; clear hB'; have i3 := i3'; clear i3'; have i5 := i5'; clear i5'; skip) | (refine store_BoardF rfl _ _ rfl _ nx rfl rfl (Has.new' (n := 16) rfl) ?_; intro w3 ho3 hn3))
    have hB' := below_fr hB ho3
    have i3' := has_fr i3 ho3
    have i5' := has_fr i5 ho3
    have i8 := hn3
    clear hB ho3 hn3 i3 i5
    have hB := hB'; clear hB'
    have i3 := i3'; clear i3'
    have i5 := i5'; clear i5'
    generalize w2.heap.size = Ei8 at *
    clear w2
    have hL1 : True := trivial
    have hL2 : True := trivial
    go_upto_region 8 with (first | ((have hM := hL1); (refine load_BoardF rfl _ rfl _ _ rfl i5 ?_); (clear hM hL1)) | ((have hM := hL2); (refine load_BoardF rfl _ rfl _ _ rfl i8 ?_); (clear hM hL2)))
    clear n1 F1 F2 i8
    have hL1 : True := trivial
    go_upto_region 9 with (first | ((have hM := hL1); (refine load_BoardF rfl _ rfl _ _ rfl i3 ?_); (clear hM hL1)) | ((go_at_call 25); (with_reducible refine (M1.out _).mono ?_); rintro e w2 ⟨A1, c1, rfl, hS1, hb2⟩; have hB' := below_go hB hb2; have i3' := i3.call hb2; have i5' := i5.call hb2; clear hB hb2 i3 i5; have hB := hB'; clear hB'; have i3 := i3'; clear i3'; have i5 := i5'; clear i5'; skip))
    have hL1 : True := trivial
    go_upto_region 10 with (first | ((have hM := hL1); (refine load_BoardF rfl _ rfl _ _ rfl i3 ?_); (clear hM hL1)) | ((go_at_call 26); (with_reducible refine (M2.out _).mono ?_); rintro e w2 ⟨A2, c2, rfl, hS2, hb2⟩; have hB' := below_go hB hb2; have i3' := i3.call hb2; have i5' := i5.call hb2; have hS1' := hS1.call hb2; clear hB hb2 i3 i5 hS1; have hB := hB'; clear hB'; have i3 := i3'; clear i3'; have i5 := i5'; clear i5'; have hS1 := hS1'; clear hS1'; skip))
    cases pB
    · have hq := HV.out
      obtain rfl : pO = false := by rw [hq.2.1, ← hq.1]; rfl
      obtain rfl : ov = false := by rw [hq.2.2.2.2.2.2.2.1]; rfl
      clear hq
      have hL1 : True := trivial
      go_upto_region 12 with (first | ((have hM := hL1); (refine load_BoardG _ rfl _ _ rfl i3 (by rfl) ?_); (clear hM hL1)) | ((go_at_call 27); (with_reducible refine (B1.out _).mono ?_); rintro e w2 ⟨rfl, hb2⟩; have hB' := below_go hB hb2; have i3' := i3.call hb2; have i5' := i5.call hb2; have hS1' := hS1.call hb2; have hS2' := hS2.call hb2; clear hB hb2 i3 i5 hS1 hS2; have hB := hB'; clear hB'; have i3 := i3'; clear i3'; have i5 := i5'; clear i5'; have hS1 := hS1'; clear hS1'; have hS2 := hS2'; clear hS2'; skip) | ((go_at_call 28); (refine (rInts_n HM.out (by omega) _ hS1 hS2).mono ?_); rintro e w2 ⟨rfl, hb2⟩; have hB' := below_go hB hb2; have i3' := i3.call hb2; have i5' := i5.call hb2; have hS1' := hS1.call hb2; have hS2' := hS2.call hb2; clear hB hb2 i3 i5 hS1 hS2; have hB := hB'; clear hB'; have i3 := i3'; clear i3'; have i5 := i5'; clear i5'; have hS1 := hS1'; clear hS1'; have hS2 := hS2'; clear hS2'; skip))
      clear B1 M1 M2 hS2
      have hL1 : True := trivial
      go_upto_region 13 with (first | ((have hM := hL1); (refine load_BoardF rfl _ rfl _ _ rfl i3 ?_); (clear hM hL1)) | ((go_at_call 29); (with_reducible refine (O1.out _).mono ?_); rintro e w2 ⟨rfl, hb2⟩; have hB' := below_go hB hb2; have i3' := i3.call hb2; have i5' := i5.call hb2; have hS1' := hS1.call hb2; clear hB hb2 i3 i5 hS1; have hB := hB'; clear hB'; have i3 := i3'; clear i3'; have i5 := i5'; clear i5'; have hS1 := hS1'; clear hS1'; skip))
      have hL1 : True := trivial
      go_upto_region 14 with (first | ((have hM := hL1); (refine load_BoardF rfl _ rfl _ _ rfl i3 ?_); (clear hM hL1)) | ((go_at_call 30); (with_reducible refine (O2.out _).mono ?_); rintro e w2 ⟨rfl, hb2⟩; have hB' := below_go hB hb2; have i3' := i3.call hb2; have i5' := i5.call hb2; have hS1' := hS1.call hb2; clear hB hb2 i3 i5 hS1; have hB := hB'; clear hB'; have i3 := i3'; clear i3'; have i5 := i5'; clear i5'; have hS1 := hS1'; clear hS1'; skip))
      go_upto_region 16 with (first | fail)
      clear O1 O2
      have hL1 : True := trivial
      go_upto_region 17 with (first | ((have hM := hL1); (refine load_BoardF rfl _ rfl _ _ rfl i3 ?_); (clear hM hL1)) | ((go_at_call 31); (with_reducible refine (G1.out _).mono ?_); rintro e w2 ⟨rfl, hb2⟩; have hB' := below_go hB hb2; have i3' := i3.call hb2; have i5' := i5.call hb2; have hS1' := hS1.call hb2; clear hB hb2 i3 i5 hS1; have hB := hB'; clear hB'; have i3 := i3'; clear i3'; have i5 := i5'; clear i5'; have hS1 := hS1'; clear hS1'; skip))
      have hL1 : True := trivial
      go_upto_region 18 with (first | ((have hM := hL1); (refine load_BoardF rfl _ rfl _ _ rfl i3 ?_); (clear hM hL1)) | ((go_at_call 32); (with_reducible refine (G2.out _).mono ?_); rintro e w2 ⟨rfl, hb2⟩; have hB' := below_go hB hb2; have i3' := i3.call hb2; have i5' := i5.call hb2; have hS1' := hS1.call hb2; clear hB hb2 i3 i5 hS1; have hB := hB'; clear hB'; have i3 := i3'; clear i3'; have i5 := i5'; clear i5'; have hS1 := hS1'; clear hS1'; skip))
      go_upto_region 20 with (first | fail)
      clear G1 G2
      have hL1 : True := trivial
      go_upto_region 21 with (first | ((have hM := hL1); (refine load_BoardF rfl _ rfl _ _ rfl i3 ?_); (clear hM hL1)) | ((go_at_call 19); (with_reducible refine (S1.out _).mono ?_); rintro e w2 ⟨rfl, hb2⟩; have hB' := below_go hB hb2; have i3' := i3.call hb2; have i5' := i5.call hb2; have hS1' := hS1.call hb2; clear hB hb2 i3 i5 hS1; have hB := hB'; clear hB'; have i3 := i3'; clear i3'; have i5 := i5'; clear i5'; have hS1 := hS1'; clear hS1'; skip))
      have hL1 : True := trivial
      go_upto_region 22 with (first | ((have hM := hL1); (refine load_BoardF rfl _ rfl _ _ rfl i3 ?_); (clear hM hL1)) | ((go_at_call 33); (with_reducible refine (S2.out _).mono ?_); rintro e w2 ⟨rfl, hb2⟩; have hB' := below_go hB hb2; have i3' := i3.call hb2; have i5' := i5.call hb2; have hS1' := hS1.call hb2; clear hB hb2 i3 i5 hS1; have hB := hB'; clear hB'; have i3 := i3'; clear i3'; have i5 := i5'; clear i5'; have hS1 := hS1'; clear hS1'; skip))
      go_upto_region 24 with (first | fail)
      clear S1 S2
      have hL1 : True := trivial
      go_upto_region 25 with (first | ((have hM := hL1); (refine load_BoardF rfl _ rfl _ _ rfl i3 ?_); (clear hM hL1)) | ((go_at_call 20); (with_reducible refine (E1.out _).mono ?_); rintro e w2 ⟨rfl, hb2⟩; have hB' := below_go hB hb2; have i3' := i3.call hb2; have i5' := i5.call hb2; have hS1' := hS1.call hb2; clear hB hb2 i3 i5 hS1; have hB := hB'; clear hB'; have i3 := i3'; clear i3'; have i5 := i5'; clear i5'; have hS1 := hS1'; clear hS1'; skip))
      have hL1 : True := trivial
      go_upto_region 26 with (first | ((have hM := hL1); (refine load_BoardF rfl _ rfl _ _ rfl i3 ?_); (clear hM hL1)) | ((go_at_call 34); (with_reducible refine (E2.out _).mono ?_); rintro e w2 ⟨rfl, hb2⟩; have hB' := below_go hB hb2; have i3' := i3.call hb2; have i5' := i5.call hb2; have hS1' := hS1.call hb2; clear hB hb2 i3 i5 hS1; have hB := hB'; clear hB'; have i3 := i3'; clear i3'; have i5 := i5'; clear i5'; have hS1 := hS1'; clear hS1'; skip))
      go_upto_region 28 with (first | fail)
      clear E1 E2
      go_wp2_with (first | fail)
      go_ret
      exact ⟨rfl, hB⟩
    · have hq := HV.out
      have hbb : bdB b = true := hq.1.symm
      have hml : ml = mvL b 4 := by rw [hq.2.2.2.2.2.1]; unfold mvO; rw [if_pos hbb]
      have hel : el = emL b 16 := by rw [hq.2.2.2.2.2.2.2.2.2.2.1]; unfold emO; rw [if_pos hbb]
      have eov : ((nm : Int) == 0) = ov := by rw [hq.2.2.2.2.2.2.1, hml, hq.2.2.2.2.2.2.2.1, ovB_len]; rfl
      have hoi : ov = true ↔ (ne = 16 ∨ (ne = 0 ∧ ep = 0)) := by
        have h := over_iff (bdB_in hbb)
        rw [hq.2.2.2.2.2.2.2.2.2.2.2, hel, hq.2.2.2.2.2.2.2.2.2.1, zr_true, ← h, hq.2.2.2.2.2.2.2.1, Bool.true_and]
        exact (ovB_iff b).symm
      have HOI := hide hoi; have HBB := hide hbb; have HML := hide hml; have HEL := hide hel
      clear hq hbb hml hel hoi
      have hL1 : True := trivial
      go_upto_region 12 with (first | ((have hM := hL1); (refine load_BoardG _ rfl _ _ rfl i3 (by rfl) ?_); (clear hM hL1)) | ((go_at_call 27); (with_reducible refine (B1.out _).mono ?_); rintro e w2 ⟨rfl, hb2⟩; have hB' := below_go hB hb2; have i3' := i3.call hb2; have i5' := i5.call hb2; have hS1' := hS1.call hb2; have hS2' := hS2.call hb2; clear hB hb2 i3 i5 hS1 hS2; have hB := hB'; clear hB'; have i3 := i3'; clear i3'; have i5 := i5'; clear i5'; have hS1 := hS1'; clear hS1'; have hS2 := hS2'; clear hS2'; skip) | ((go_at_call 28); (refine (rInts_n HM.out (by omega) _ hS1 hS2).mono ?_); rintro e w2 ⟨rfl, hb2⟩; have hB' := below_go hB hb2; have i3' := i3.call hb2; have i5' := i5.call hb2; have hS1' := hS1.call hb2; have hS2' := hS2.call hb2; clear hB hb2 i3 i5 hS1 hS2; have hB := hB'; clear hB'; have i3 := i3'; clear i3'; have i5 := i5'; clear i5'; have hS1 := hS1'; clear hS1'; have hS2 := hS2'; clear hS2'; skip))
      clear B1 M1 M2 hS2
      have hL1 : True := trivial
      go_upto_region 13 with (first | ((have hM := hL1); (refine load_BoardF rfl _ rfl _ _ rfl i3 ?_); (clear hM hL1)) | ((go_at_call 29); (with_reducible refine (O1.out _).mono ?_); rintro e w2 ⟨rfl, hb2⟩; have hB' := below_go hB hb2; have i3' := i3.call hb2; have i5' := i5.call hb2; have hS1' := hS1.call hb2; clear hB hb2 i3 i5 hS1; have hB := hB'; clear hB'; have i3 := i3'; clear i3'; have i5 := i5'; clear i5'; have hS1 := hS1'; clear hS1'; skip))
      have hL1 : True := trivial
      go_upto_region 14 with (first | ((have hM := hL1); (refine load_BoardF rfl _ rfl _ _ rfl i3 ?_); (clear hM hL1)) | ((go_at_call 30); (with_reducible refine (O2.out _).mono ?_); rintro e w2 ⟨rfl, hb2⟩; have hB' := below_go hB hb2; have i3' := i3.call hb2; have i5' := i5.call hb2; have hS1' := hS1.call hb2; clear hB hb2 i3 i5 hS1; have hB := hB'; clear hB'; have i3 := i3'; clear i3'; have i5 := i5'; clear i5'; have hS1 := hS1'; clear hS1'; skip))
      go_upto_region 16 with (first | fail)
      clear O1 O2
      have hL1 : True := trivial
      go_upto_region 17 with (first | ((have hM := hL1); (refine load_BoardF rfl _ rfl _ _ rfl i3 ?_); (clear hM hL1)) | ((go_at_call 31); (with_reducible refine (G1.out _).mono ?_); rintro e w2 ⟨rfl, hb2⟩; have hB' := below_go hB hb2; have i3' := i3.call hb2; have i5' := i5.call hb2; have hS1' := hS1.call hb2; clear hB hb2 i3 i5 hS1; have hB := hB'; clear hB'; have i3 := i3'; clear i3'; have i5 := i5'; clear i5'; have hS1 := hS1'; clear hS1'; skip))
      have hL1 : True := trivial
      go_upto_region 18 with (first | ((have hM := hL1); (refine load_BoardF rfl _ rfl _ _ rfl i3 ?_); (clear hM hL1)) | ((go_at_call 32); (with_reducible refine (G2.out _).mono ?_); rintro e w2 ⟨rfl, hb2⟩; have hB' := below_go hB hb2; have i3' := i3.call hb2; have i5' := i5.call hb2; have hS1' := hS1.call hb2; clear hB hb2 i3 i5 hS1; have hB := hB'; clear hB'; have i3 := i3'; clear i3'; have i5 := i5'; clear i5'; have hS1 := hS1'; clear hS1'; skip))
      go_upto_region 20 with (first | fail)
      clear G1 G2
      have hL1 : True := trivial
      go_upto_region 21 with (first | ((have hM := hL1); (refine load_BoardF rfl _ rfl _ _ rfl i3 ?_); (clear hM hL1)) | ((go_at_call 19); (with_reducible refine (S1.out _).mono ?_); rintro e w2 ⟨rfl, hb2⟩; have hB' := below_go hB hb2; have i3' := i3.call hb2; have i5' := i5.call hb2; have hS1' := hS1.call hb2; clear hB hb2 i3 i5 hS1; have hB := hB'; clear hB'; have i3 := i3'; clear i3'; have i5 := i5'; clear i5'; have hS1 := hS1'; clear hS1'; skip))
      have hL1 : True := trivial
      go_upto_region 22 with (first | ((have hM := hL1); (refine load_BoardF rfl _ rfl _ _ rfl i3 ?_); (clear hM hL1)) | ((go_at_call 33); (with_reducible refine (S2.out _).mono ?_); rintro e w2 ⟨rfl, hb2⟩; have hB' := below_go hB hb2; have i3' := i3.call hb2; have i5' := i5.call hb2; have hS1' := hS1.call hb2; clear hB hb2 i3 i5 hS1; have hB := hB'; clear hB'; have i3 := i3'; clear i3'; have i5 := i5'; clear i5'; have hS1 := hS1'; clear hS1'; skip))
      go_upto_region 24 with (first | fail)
      clear S1 S2
      have hL1 : True := trivial
      go_upto_region 25 with (first | ((have hM := hL1); (refine load_BoardF rfl _ rfl _ _ rfl i3 ?_); (clear hM hL1)) | ((go_at_call 20); (with_reducible refine (E1.out _).mono ?_); rintro e w2 ⟨rfl, hb2⟩; have hB' := below_go hB hb2; have i3' := i3.call hb2; have i5' := i5.call hb2; have hS1' := hS1.call hb2; clear hB hb2 i3 i5 hS1; have hB := hB'; clear hB'; have i3 := i3'; clear i3'; have i5 := i5'; clear i5'; have hS1 := hS1'; clear hS1'; skip))
      have hL1 : True := trivial
      go_upto_region 26 with (first | ((have hM := hL1); (refine load_BoardF rfl _ rfl _ _ rfl i3 ?_); (clear hM hL1)) | ((go_at_call 34); (with_reducible refine (E2.out _).mono ?_); rintro e w2 ⟨rfl, hb2⟩; have hB' := below_go hB hb2; have i3' := i3.call hb2; have i5' := i5.call hb2; have hS1' := hS1.call hb2; clear hB hb2 i3 i5 hS1; have hB := hB'; clear hB'; have i3 := i3'; clear i3'; have i5 := i5'; clear i5'; have hS1 := hS1'; clear hS1'; skip))
      go_upto_region 28 with (first | fail)
      clear E1 E2
      clear eov
      have hL1 : True := trivial
      go_upto_region 30 with (first | ((have hM := hL1); (refine load_BoardF rfl _ rfl _ _ rfl i3 ?_); (clear hM hL1)) | ((go_at_call 35); (with_reducible refine (C1.out _).mono ?_); rintro e w2 ⟨A3, c3, rfl, hS3, hb2⟩; have hB' := below_go hB hb2; have i3' := i3.call hb2; have i5' := i5.call hb2; have hS1' := hS1.call hb2; clear hB hb2 i3 i5 hS1; have hB := hB'; clear hB'; have i3 := i3'; clear i3'; have i5 := i5'; clear i5'; have hS1 := hS1'; clear hS1'; skip))
      clear hS3
      rcases (by omega : (ne = 16) ∨ (ne = 0 ∧ ep = 0) ∨ (ne = 0 ∧ ep ≠ 0) ∨ (ne ≠ 16 ∧ ne ≠ 0)) with hx1 | hx2 | hx3 | hx4
      focus
        have hov : ov = true := HOI.out.2 (.inl hx1)
        have f1 : ((ne : Int) == 16) = true := by rw [hx1]; rfl
        subst hov
        go_upto_region 32 with (first | fail)
        clear hx1 f1 HOI
      rotate_left
      focus
        have hov : ov = true := HOI.out.2 (.inr hx2)
        have f1 : ((ne : Int) == 16) = false := beq_eq_false_iff_ne.2 (by omega)
        have f2 : ((ne : Int) == 0) = true := by rw [hx2.1]; rfl
        have f3 : (ep == 0) = true := by rw [hx2.2]; rfl
        subst hov
        go_upto_region 32 with (first | fail)
        clear hx2 f1 f2 f3 HOI
      rotate_left
      focus
        have hov : ov = false := by (cases e : ov; rfl; (have h := HOI.out.1 e; omega))
        have f1 : ((ne : Int) == 16) = false := beq_eq_false_iff_ne.2 (by omega)
        have f2 : ((ne : Int) == 0) = true := by rw [hx3.1]; rfl
        have f3 : (ep == 0) = false := beq_eq_false_iff_ne.2 hx3.2
        subst hov
        go_upto_region 32 with (first | fail)
        clear hx3 f1 f2 f3 HOI
      rotate_left
      focus
        have hov : ov = false := by (cases e : ov; rfl; (have h := HOI.out.1 e; omega))
        have f1 : ((ne : Int) == 16) = false := beq_eq_false_iff_ne.2 (by omega)
        have f2 : ((ne : Int) == 0) = false := beq_eq_false_iff_ne.2 (by omega)
        subst hov
        go_upto_region 32 with (first | fail)
        clear hx4 f1 f2 HOI
      rotate_left
      all_goals
        cases pO
        · skip
          go_wp2_with (first | fail)
          go_ret
          exact ⟨rfl, hB⟩
        · have hq := HV.out
          have hbd : (bdB b && inB d 0 3) = true := hq.2.1.symm
          rw [Bool.and_eq_true] at hbd
          obtain ⟨D, hD, rfl⟩ := dir_nat hbd.2
          have hib := bdB_in HBB.out
          have hnx : nx = slB b D := by (rw [hq.2.2.1, Int.toNat_natCast]; rfl)
          have hsc : sc = scTo b D 4 := by (rw [hq.2.2.2.1, Int.toNat_natCast]; rfl)
          have hmg : mg = mgTo b D 4 := by (rw [hq.2.2.2.2.1, Int.toNat_natCast]; rfl)
          have hsu : su = smT b 16 := by (rw [hq.2.2.2.2.2.2.2.2.1]; rfl)
          have hnb : bdB nx = true := by (rw [hnx]; exact bd_in17 (slB_in hib))
          obtain ⟨ag, hag⟩ : ∃ ag : Nat → Int, ag = slB nx D := ⟨_, rfl⟩
          obtain ⟨mo, hmo⟩ : ∃ mo : Int, mo = scTo nx D 4 := ⟨_, rfl⟩
          obtain ⟨ne2, hne2⟩ : ∃ ne2 : Nat, ne2 = (emL nx 16).length := ⟨_, rfl⟩
          obtain ⟨qm, hqm⟩ : ∃ qm : Bool, qm = decide (D ∈ ml) := ⟨_, rfl⟩
          have hqe : (!eqB nx b) = qm := by (rw [hqm, hnx, HML.out]; exact mvL_mem b hD)
          have hdf : (ne2 : Int) - (ne : Int) = mg := by (rw [hne2, hq.2.2.2.2.2.2.2.2.2.2.2, HEL.out, hnx, hmg]; exact em_slide hib hD)
          have hle2 : ne2 ≤ 16 := by (rw [hne2]; exact emL_len nx 16)
          have ws : IntKind.i64.wrap ((ne2 : Int) - (ne : Int)) = mg := by (rw [hdf]; exact IntWalk.i64_in _ (by omega))
          have S3 : Hid (∀ w, Calls Try.prog 19 #[.agg #[.int .i64 (nx 0), .int .i64 (nx 1), .int .i64 (nx 2), .int .i64 (nx 3), .int .i64 (nx 4), .int .i64 (nx 5), .int .i64 (nx 6), .int .i64 (nx 7), .int .i64 (nx 8), .int .i64 (nx 9), .int .i64 (nx 10), .int .i64 (nx 11), .int .i64 (nx 12), .int .i64 (nx 13), .int .i64 (nx 14), .int .i64 (nx 15)]] w fun e w' => e = .returned (.tuple #[.int .i64 su, .bool true]) ∧ Below w.heap.size w w') := hide (by (have h := sumOf_any nx; rw [hnb, zr_true, hnx, smT_slB hib hD, ← hsu, ← hnx] at h; exact h))
          have F3 : Hid (∀ w, Calls Try.prog 21 #[.agg #[.int .i64 (nx 0), .int .i64 (nx 1), .int .i64 (nx 2), .int .i64 (nx 3), .int .i64 (nx 4), .int .i64 (nx 5), .int .i64 (nx 6), .int .i64 (nx 7), .int .i64 (nx 8), .int .i64 (nx 9), .int .i64 (nx 10), .int .i64 (nx 11), .int .i64 (nx 12), .int .i64 (nx 13), .int .i64 (nx 14), .int .i64 (nx 15)], .int .i64 (D : Int)] w fun e w' => e = .returned (.tuple #[.agg #[.int .i64 (ag 0), .int .i64 (ag 1), .int .i64 (ag 2), .int .i64 (ag 3), .int .i64 (ag 4), .int .i64 (ag 5), .int .i64 (ag 6), .int .i64 (ag 7), .int .i64 (ag 8), .int .i64 (ag 9), .int .i64 (ag 10), .int .i64 (ag 11), .int .i64 (ag 12), .int .i64 (ag 13), .int .i64 (ag 14), .int .i64 (ag 15)], .int .i64 mo, .bool true]) ∧ Below w.heap.size w w') := hide (by (have h := slideBoard_any nx (D : Int); rw [hnb, dir_in hD, Int.toNat_natCast, ← hag, ← hmo] at h; exact h))
          have G3 : Hid (∀ w, Calls Try.prog 31 #[.agg #[.int .i64 (b 0), .int .i64 (b 1), .int .i64 (b 2), .int .i64 (b 3), .int .i64 (b 4), .int .i64 (b 5), .int .i64 (b 6), .int .i64 (b 7), .int .i64 (b 8), .int .i64 (b 9), .int .i64 (b 10), .int .i64 (b 11), .int .i64 (b 12), .int .i64 (b 13), .int .i64 (b 14), .int .i64 (b 15)], .int .i64 (((D : Int) + 2) % 4)] w fun e w' => e = .returned (.tuple #[.int .i64 mg, .bool true]) ∧ Below w.heap.size w w') := hide (by (have e4 : ((D : Int) + 2) % 4 = (((D + 2) % 4 : Nat) : Int) := by omega); rw [e4]; (have h := mergersOf_any b (((D + 2) % 4 : Nat) : Int); rw [HBB.out, dir_in (Nat.mod_lt _ (by omega)), Int.toNat_natCast, mgTo_back hib hD, ← hmg] at h; exact h))
          have C2 : Hid (∀ w, Calls Try.prog 35 #[.agg #[.int .i64 (nx 0), .int .i64 (nx 1), .int .i64 (nx 2), .int .i64 (nx 3), .int .i64 (nx 4), .int .i64 (nx 5), .int .i64 (nx 6), .int .i64 (nx 7), .int .i64 (nx 8), .int .i64 (nx 9), .int .i64 (nx 10), .int .i64 (nx 11), .int .i64 (nx 12), .int .i64 (nx 13), .int .i64 (nx 14), .int .i64 (nx 15)]] w fun e w' => ∃ A cap, e = .returned (.tuple #[.slice A ne2 cap, .bool true]) ∧ Sl w' w.heap.size A (ne2 * 2) (fI (plF (emL nx 16))) ∧ Below w.heap.size w w') := hide (by (have h := emptyCells_own nx; unfold emO at h; rw [hnb, if_pos rfl, ← hne2] at h; exact h))
          have RH : Hid (∀ w {A : Option Addr} {B c1 : Nat}, Sl w B A nm (fI ml) → Calls Try.prog 36 #[.slice A nm c1, .int .i64 (D : Int)] w fun e w' => e = .returned (.bool qm) ∧ Below w.heap.size w w') := hide (fun w {_ _ _} hS => rHas_n HM.out (by omega) hqm w hS)
          have hsm := scTo_mg (d := D) hib; have hs0 := (scTo_le (d := D) hib 4 (by omega)).1; have hm0 := (mgTo_le (b := b) (d := D) 4).1
          rw [← hsc, ← hmg] at hsm; rw [← hsc] at hs0; rw [← hmg] at hm0
          have hagn : mg = 0 → eqB ag nx = true ∧ mo = 0 := by (intro h; have h2 := slB_again hib hD (by rw [← hmg]; exact h); rw [← hnx] at h2; rw [hag, hmo]; exact h2)
          have n5 : ∀ w, (binOp .neq 27 (.agg #[.int .i64 (nx 0), .int .i64 (nx 1), .int .i64 (nx 2), .int .i64 (nx 3), .int .i64 (nx 4), .int .i64 (nx 5), .int .i64 (nx 6), .int .i64 (nx 7), .int .i64 (nx 8), .int .i64 (nx 9), .int .i64 (nx 10), .int .i64 (nx 11), .int .i64 (nx 12), .int .i64 (nx 13), .int .i64 (nx 14), .int .i64 (nx 15)]) (.agg #[.int .i64 (b 0), .int .i64 (b 1), .int .i64 (b 2), .int .i64 (b 3), .int .i64 (b 4), .int .i64 (b 5), .int .i64 (b 6), .int .i64 (b 7), .int .i64 (b 8), .int .i64 (b 9), .int .i64 (b 10), .int .i64 (b 11), .int .i64 (b 12), .int .i64 (b 13), .int .i64 (b 14), .int .i64 (b 15)])).run Try.prog w = .ok (.bool qm) w := fun w => by rw [run_neq_Board, hqe]
          obtain ⟨qa, hqa⟩ : ∃ qa : Bool, qa = eqB ag nx := ⟨_, rfl⟩
          have n6 : ∀ w, (binOp .eql 27 (.agg #[.int .i64 (ag 0), .int .i64 (ag 1), .int .i64 (ag 2), .int .i64 (ag 3), .int .i64 (ag 4), .int .i64 (ag 5), .int .i64 (ag 6), .int .i64 (ag 7), .int .i64 (ag 8), .int .i64 (ag 9), .int .i64 (ag 10), .int .i64 (ag 11), .int .i64 (ag 12), .int .i64 (ag 13), .int .i64 (ag 14), .int .i64 (ag 15)]) (.agg #[.int .i64 (nx 0), .int .i64 (nx 1), .int .i64 (nx 2), .int .i64 (nx 3), .int .i64 (nx 4), .int .i64 (nx 5), .int .i64 (nx 6), .int .i64 (nx 7), .int .i64 (nx 8), .int .i64 (nx 9), .int .i64 (nx 10), .int .i64 (nx 11), .int .i64 (nx 12), .int .i64 (nx 13), .int .i64 (nx 14), .int .i64 (nx 15)])).run Try.prog w = .ok (.bool qa) w := fun w => by rw [run_eql_Board, ← hqa]
          have HQA := hide hqa; clear hqa
          clear hq hbd HV hib hnx hsc hmg hsu hnb hag hmo hne2 hqm hqe hdf
          have HSM := hide (And.intro hsm (And.intro hs0 (And.intro hm0 hagn)))
          clear hsm hs0 hm0 hagn
          have HN5 := hide n5; have HN6 := hide n6; clear n5 n6
          have hL1 : True := trivial
          go_upto_region 35 with (first | ((have hM := hL1); (refine load_BoardF rfl _ rfl _ _ rfl i5 ?_); (clear hM hL1)) | ((go_at_call 19); (with_reducible refine (S3.out _).mono ?_); rintro e w2 ⟨rfl, hb2⟩; have hB' := below_go hB hb2; have i3' := i3.call hb2; have i5' := i5.call hb2; have hS1' := hS1.call hb2; clear hB hb2 i3 i5 hS1; have hB := hB'; clear hB'; have i3 := i3'; clear i3'; have i5 := i5'; clear i5'; have hS1 := hS1'; clear hS1'; skip))
          have hS1o := hS1
          have hL1 : True := trivial
          go_upto_region 36 with (first | ((have hM := hL1); (refine load_BoardF rfl _ rfl _ _ rfl i5 ?_); (clear hM hL1)) | ((go_at_call 21); (with_reducible refine (F3.out _).mono ?_); rintro e w2 ⟨rfl, hb2⟩; have hB' := below_go hB hb2; have i3' := i3.call hb2; have i5' := i5.call hb2; have hS1' := hS1.call hb2; clear hB hb2 i3 i5 hS1; have hB := hB'; clear hB'; have i3 := i3'; clear i3'; have i5 := i5'; clear i5'; have hS1 := hS1'; clear hS1'; skip) | (refine store_BoardF rfl _ _ rfl _ ag rfl rfl (Has.new' (n := 16) rfl) ?_; intro w3 ho3 hn3))
          have hS1f := sl_fr hS1 ho3; clear hS1 hS1o; have hS1 := hS1f; clear hS1f
          have hB' := below_fr hB ho3
          have i3' := has_fr i3 ho3
          have i5' := has_fr i5 ho3
          have i35 := hn3
          clear hB ho3 hn3 i3 i5
          have hB := hB'; clear hB'
          have i3 := i3'; clear i3'
          have i5 := i5'; clear i5'
          generalize w2.heap.size = Ei35 at *
          clear w2
          have hL1 : True := trivial
          go_upto_region 37 with (first | ((have hM := hL1); (refine load_BoardF rfl _ rfl _ _ rfl i3 ?_); (clear hM hL1)) | ((go_at_call 31); (with_reducible refine (G3.out _).mono ?_); rintro e w2 ⟨rfl, hb2⟩; have hB' := below_go hB hb2; have i3' := i3.call hb2; have i5' := i5.call hb2; have i35' := i35.call hb2; have hS1' := hS1.call hb2; clear hB hb2 i3 i5 i35 hS1; have hB := hB'; clear hB'; have i3 := i3'; clear i3'; have i5 := i5'; clear i5'; have i35 := i35'; clear i35'; have hS1 := hS1'; clear hS1'; skip))
          have hL1 : True := trivial
          go_upto_region 38 with (first | ((have hM := hL1); (refine load_BoardF rfl _ rfl _ _ rfl i3 ?_); (clear hM hL1)) | ((go_at_call 35); (with_reducible refine (C1.out _).mono ?_); rintro e w2 ⟨A4, c4, rfl, hS4, hb2⟩; have hB' := below_go hB hb2; have i3' := i3.call hb2; have i5' := i5.call hb2; have i35' := i35.call hb2; have hS1' := hS1.call hb2; clear hB hb2 i3 i5 i35 hS1; have hB := hB'; clear hB'; have i3 := i3'; clear i3'; have i5 := i5'; clear i5'; have i35 := i35'; clear i35'; have hS1 := hS1'; clear hS1'; skip))
          have hL1 : True := trivial
          go_upto_region 39 with (first | ((have hM := hL1); (refine load_BoardF rfl _ rfl _ _ rfl i5 ?_); (clear hM hL1)) | ((go_at_call 35); (with_reducible refine (C2.out _).mono ?_); rintro e w2 ⟨A5, c5, rfl, hS5, hb2⟩; have hB' := below_go hB hb2; have i3' := i3.call hb2; have i5' := i5.call hb2; have i35' := i35.call hb2; have hS1' := hS1.call hb2; clear hB hb2 i3 i5 i35 hS1; have hB := hB'; clear hB'; have i3 := i3'; clear i3'; have i5 := i5'; clear i5'; have i35 := i35'; clear i35'; have hS1 := hS1'; clear hS1'; skip))
          (try clear hS4); (try clear hS5)
          go_upto_region 41 with (first | fail)
          clear ws S3 F3 G3 C1 C2
          have n5 := HN5.out; have n6 := HN6.out; clear HN5 HN6
          have hqa := HQA.out; clear HQA
          obtain ⟨pm, hpm⟩ : ∃ pm : Bool, pm = decide (0 < mg) := ⟨_, rfl⟩
          obtain ⟨zm, hzm⟩ : ∃ zm : Bool, (mo == 0) = zm := ⟨_, rfl⟩
          have hmp : decide (0 < mg) = pm := hpm.symm
          have hsp : decide (0 < sc) = pm := by
            obtain ⟨h1, h2, h3, h4⟩ := HSM.out
            rw [hpm, decide_eq_decide]; omega
          have HQP : Hid (qa = false → pm = true) := hide (fun h => by
            rw [hpm, decide_eq_true_eq]
            obtain ⟨h1, h2, h3, h4⟩ := HSM.out
            by_cases hm : mg = 0
            · have h5 := (h4 hm).1; rw [← hqa, h] at h5; cases h5
            · omega)
          have HZP : Hid (zm = false → pm = true) := hide (fun h => by
            rw [hpm, decide_eq_true_eq]
            obtain ⟨h1, h2, h3, h4⟩ := HSM.out
            by_cases hm : mg = 0
            · have h5 := (h4 hm).2; rw [h5] at hzm; rw [← hzm] at h; cases h
            · omega)
          clear HSM hqa hpm
          go_upto_region 41 with (fail)
          refine wp_region_noPanic ?_
          refine wp_region_held_drew (S := fun w' => RB Ei5 nx w' ∧ RB Ei3 b w' ∧ RB Ei35 ag w') (by kernel_rfl) ?hS1 (fun hHeld => ?_)
          case hS1 => exact ⟨rb_of (Has.drew i5), rb_of (Has.drew i3), rb_of (Has.drew i35)⟩
          have hB' := Below.drew hB; have i3' := Has.drew i3; have i5' := Has.drew i5; have i35' := Has.drew i35; have hS1' := Sl.drew hS1; clear hB i3 i5 i35 hS1
          have hB := hB'; have i3 := i3'; have i5 := i5'; have i35 := i35'; have hS1 := hS1'; clear hB' i3' i5' i35' hS1'
          generalize hWW : World.drew _ = wx at *; clear hWW
          refine take_d (i := 0) (some 300) (oi := _) (v := _) rfl rfl (by kernel_rfl) (by kernel_rfl) (by kernel_rfl) (fun _ _ _ h => h) (yieldsIf_load_mid (by rfl) _ _ rfl _ _ rfl _ _ (fun w h => h.1.r) Try.underlying27 rfl (by kernel_rfl)) (by assumption) ?_
          all_goals (try simp only [Act.put, List.setIfInBounds_toArray, List.set_cons_zero, List.set_cons_succ])
          refine take_d (i := 1) (some 301) (oi := _) (v := _) rfl rfl (by kernel_rfl) (by kernel_rfl) (by kernel_rfl) (fun _ _ _ h => h) (yieldsIf_load_mid (by rfl) _ _ rfl _ _ rfl _ _ (fun w h => h.2.1.r) Try.underlying27 rfl (by kernel_rfl)) (by assumption) ?_
          all_goals (try simp only [Act.put, List.setIfInBounds_toArray, List.set_cons_zero, List.set_cons_succ])
          refine take_d (i := 2) (some 302) (v := ?_) rfl rfl (by kernel_rfl) (by kernel_rfl) (by kernel_rfl) (fun _ _ _ h => h) (Or.inl ⟨by rfl, ?_⟩) (by assumption) ?_
          rotate_left; (intro w hSw; clear hSw; go_simp; try with_reducible rfl)
          all_goals (try simp only [Act.put, List.setIfInBounds_toArray, List.set_cons_zero, List.set_cons_succ])
          refine take_d (i := 3) (some 303) (v := ?_) rfl rfl (by kernel_rfl) (by kernel_rfl) (by kernel_rfl) (fun _ _ _ h => h) (Or.inl ⟨by rfl, ?_⟩) (by assumption) ?_
          rotate_left; (intro w hSw; clear hSw; go_simp; try with_reducible rfl)
          all_goals (try simp only [Act.put, List.setIfInBounds_toArray, List.set_cons_zero, List.set_cons_succ])
          refine take_d (i := 4) (some 304) (v := ?_) rfl rfl (by kernel_rfl) (by kernel_rfl) (by kernel_rfl) (fun _ _ _ h => h) (Or.inl ⟨by rfl, ?_⟩) (by assumption) ?_
          rotate_left; (intro w hSw; clear hSw; go_simp; try with_reducible rfl)
          all_goals (try simp only [Act.put, List.setIfInBounds_toArray, List.set_cons_zero, List.set_cons_succ])
          refine wpAnyH_ready (rs := [5]) (by kernel_rfl) (by simp) ?_
          refine AllReadyH.cons (o := _) rfl (fun K hK => ?_) ?_
          ·
            go_simp
            refine (RH.out _ hS1).mono ?_
            rintro e w2 ⟨rfl, hb2⟩
            (try go_wp2_with fail)
            have hB' := below_go hB hb2; have i3' := i3.call hb2; have i5' := i5.call hb2; have i35' := i35.call hb2; clear hB i3 i5 i35 hS1 hb2
            have hB := hB'; have i3 := i3'; have i5 := i5'; have i35 := i35'; clear hB' i3' i5' i35'
            generalize hWW : w2 = wx at *; clear hWW
            refine hK.out _ _ ?hS2 (fun hHeld => ?_)
            case hS2 => exact ⟨rb_of i5, rb_of i3, rb_of i35⟩
            clear hK K
            (try simp only [Act.put, List.setIfInBounds_toArray, List.set_cons_zero, List.set_cons_succ])
            refine take_d (i := 6) (some 306) (v := ?_) rfl rfl (by kernel_rfl) (by kernel_rfl) (by kernel_rfl) (fun _ _ _ h => h) (Or.inl ⟨by rfl, ?_⟩) (by assumption) ?_
            rotate_left; (intro w hSw; clear hSw; go_simp; try with_reducible rfl)
            all_goals (try simp only [Act.put, List.setIfInBounds_toArray, List.set_cons_zero, List.set_cons_succ])
            refine take_d (i := 7) (some 307) (v := ?_) rfl rfl (by kernel_rfl) (by kernel_rfl) (by kernel_rfl) (fun _ _ _ h => h) (Or.inl ⟨by rfl, ?_⟩) (by assumption) ?_
            rotate_left; (intro w hSw; clear hSw; go_simp; try with_reducible rfl)
            all_goals (try simp only [Act.put, List.setIfInBounds_toArray, List.set_cons_zero, List.set_cons_succ])
            refine take_d (i := 8) (some 308) (oi := _) (v := _) rfl rfl (by kernel_rfl) (by kernel_rfl) (by kernel_rfl) (fun _ _ _ h => h) (yieldsIf_load_mid (by rfl) _ _ rfl _ _ rfl _ _ (fun w h => h.2.2.r) Try.underlying27 rfl (by kernel_rfl)) (by assumption) ?_
            all_goals (try simp only [Act.put, List.setIfInBounds_toArray, List.set_cons_zero, List.set_cons_succ])
            refine take_d (i := 9) (some 309) (oi := _) (v := _) rfl rfl (by kernel_rfl) (by kernel_rfl) (by kernel_rfl) (fun _ _ _ h => h) (yieldsIf_load_mid (by rfl) _ _ rfl _ _ rfl _ _ (fun w h => h.1.r) Try.underlying27 rfl (by kernel_rfl)) (by assumption) ?_
            all_goals (try simp only [Act.put, List.setIfInBounds_toArray, List.set_cons_zero, List.set_cons_succ])
            refine take_d (i := 10) (some 310) (v := ?_) rfl rfl (by kernel_rfl) (by kernel_rfl) (by kernel_rfl) (fun _ _ _ h => h) (Or.inl ⟨by rfl, ?_⟩) (by assumption) ?_
            rotate_left; (intro w hSw; clear hSw; go_simp; try with_reducible rfl)
            all_goals (try simp only [Act.put, List.setIfInBounds_toArray, List.set_cons_zero, List.set_cons_succ])
            refine take_d (i := 11) (some 311) (v := ?_) rfl rfl (by kernel_rfl) (by kernel_rfl) (by kernel_rfl) (fun _ _ _ h => h) (Or.inl ⟨by rfl, ?_⟩) (by assumption) ?_
            rotate_left; (intro w hSw; clear hSw; go_simp; try with_reducible rfl)
            all_goals (try simp only [Act.put, List.setIfInBounds_toArray, List.set_cons_zero, List.set_cons_succ])
            refine take_d (i := 12) (some 312) (v := bif qa then undef else .int .i64 mg) rfl rfl (by kernel_rfl) (by kernel_rfl) (by kernel_rfl) (fun _ _ _ h => h) ?hY12 (by assumption) ?_
            case hY12 =>
              cases qa
              · obtain rfl := HQP.out rfl
                exact Or.inl ⟨by rfl, by (intro w hSw; clear hSw; go_simp; try with_reducible rfl)⟩
              · exact Or.inr ⟨by rfl, rfl⟩
            all_goals (try simp only [Act.put, List.setIfInBounds_toArray, List.set_cons_zero, List.set_cons_succ])
            refine take_d (i := 13) (some 313) (v := bif qa then undef else .bool true) rfl rfl (by kernel_rfl) (by kernel_rfl) (by kernel_rfl) (fun _ _ _ h => h) ?hY13 (by assumption) ?_
            case hY13 =>
              cases qa
              · obtain rfl := HQP.out rfl
                exact Or.inl ⟨by rfl, by (intro w hSw; clear hSw; go_simp; try with_reducible rfl)⟩
              · exact Or.inr ⟨by rfl, rfl⟩
            all_goals (try simp only [Act.put, List.setIfInBounds_toArray, List.set_cons_zero, List.set_cons_succ])
            refine take_d (i := 14) (some 314) (v := .bool true) rfl rfl (by kernel_rfl) (by kernel_rfl) (by kernel_rfl) (fun _ _ _ h => h) ?hY14 (by assumption) ?_
            case hY14 =>
              cases qa
              · exact Or.inl ⟨by rfl, by (intro w hSw; clear hSw; go_simp; try with_reducible rfl)⟩
              · exact Or.inl ⟨by rfl, by (intro w hSw; clear hSw; go_simp; try with_reducible rfl)⟩
            all_goals (try simp only [Act.put, List.setIfInBounds_toArray, List.set_cons_zero, List.set_cons_succ])
            refine take_d (i := 15) (some 315) (v := ?_) rfl rfl (by kernel_rfl) (by kernel_rfl) (by kernel_rfl) (fun _ _ _ h => h) (Or.inl ⟨by rfl, ?_⟩) (by assumption) ?_
            rotate_left; (intro w hSw; clear hSw; go_simp; try with_reducible rfl)
            all_goals (try simp only [Act.put, List.setIfInBounds_toArray, List.set_cons_zero, List.set_cons_succ])
            refine take_d (i := 16) (some 316) (v := ?_) rfl rfl (by kernel_rfl) (by kernel_rfl) (by kernel_rfl) (fun _ _ _ h => h) (Or.inl ⟨by rfl, ?_⟩) (by assumption) ?_
            rotate_left; (intro w hSw; clear hSw; go_simp; try with_reducible rfl)
            all_goals (try simp only [Act.put, List.setIfInBounds_toArray, List.set_cons_zero, List.set_cons_succ])
            refine take_d (i := 17) (some 317) (v := ?_) rfl rfl (by kernel_rfl) (by kernel_rfl) (by kernel_rfl) (fun _ _ _ h => h) (Or.inl ⟨by rfl, ?_⟩) (by assumption) ?_
            rotate_left; (intro w hSw; clear hSw; go_simp; try with_reducible rfl)
            all_goals (try simp only [Act.put, List.setIfInBounds_toArray, List.set_cons_zero, List.set_cons_succ])
            refine take_d (i := 18) (some 318) (v := ?_) rfl rfl (by kernel_rfl) (by kernel_rfl) (by kernel_rfl) (fun _ _ _ h => h) (Or.inl ⟨by rfl, ?_⟩) (by assumption) ?_
            rotate_left; (intro w hSw; clear hSw; go_simp; try with_reducible rfl)
            all_goals (try simp only [Act.put, List.setIfInBounds_toArray, List.set_cons_zero, List.set_cons_succ])
            refine take_d (i := 19) (some 319) (v := ?_) rfl rfl (by kernel_rfl) (by kernel_rfl) (by kernel_rfl) (fun _ _ _ h => h) (Or.inl ⟨by rfl, ?_⟩) (by assumption) ?_
            rotate_left; (intro w hSw; clear hSw; go_simp; try with_reducible rfl)
            all_goals (try simp only [Act.put, List.setIfInBounds_toArray, List.set_cons_zero, List.set_cons_succ])
            refine take_d (i := 20) (some 320) (v := ?_) rfl rfl (by kernel_rfl) (by kernel_rfl) (by kernel_rfl) (fun _ _ _ h => h) (Or.inl ⟨by rfl, ?_⟩) (by assumption) ?_
            rotate_left; (intro w hSw; clear hSw; go_simp; try with_reducible rfl)
            all_goals (try simp only [Act.put, List.setIfInBounds_toArray, List.set_cons_zero, List.set_cons_succ])
            refine take_d (i := 21) (some 321) (v := ?_) rfl rfl (by kernel_rfl) (by kernel_rfl) (by kernel_rfl) (fun _ _ _ h => h) (Or.inl ⟨by rfl, ?_⟩) (by assumption) ?_
            rotate_left; (intro w hSw; clear hSw; go_simp; try with_reducible rfl)
            all_goals (try simp only [Act.put, List.setIfInBounds_toArray, List.set_cons_zero, List.set_cons_succ])
            refine take_d (i := 22) (some 322) (v := ?_) rfl rfl (by kernel_rfl) (by kernel_rfl) (by kernel_rfl) (fun _ _ _ h => h) (Or.inl ⟨by rfl, ?_⟩) (by assumption) ?_
            rotate_left; (intro w hSw; clear hSw; go_simp; try with_reducible rfl)
            all_goals (try simp only [Act.put, List.setIfInBounds_toArray, List.set_cons_zero, List.set_cons_succ])
            refine take_d (i := 23) (some 323) (v := ?_) rfl rfl (by kernel_rfl) (by kernel_rfl) (by kernel_rfl) (fun _ _ _ h => h) (Or.inl ⟨by rfl, ?_⟩) (by assumption) ?_
            rotate_left; (intro w hSw; clear hSw; go_simp; try with_reducible rfl)
            all_goals (try simp only [Act.put, List.setIfInBounds_toArray, List.set_cons_zero, List.set_cons_succ])
            refine take_d (i := 24) (some 324) (v := ?_) rfl rfl (by kernel_rfl) (by kernel_rfl) (by kernel_rfl) (fun _ _ _ h => h) (Or.inl ⟨by rfl, ?_⟩) (by assumption) ?_
            rotate_left; (intro w hSw; clear hSw; go_simp; try with_reducible rfl)
            all_goals (try simp only [Act.put, List.setIfInBounds_toArray, List.set_cons_zero, List.set_cons_succ])
            refine take_d (i := 25) (some 325) (v := ?_) rfl rfl (by kernel_rfl) (by kernel_rfl) (by kernel_rfl) (fun _ _ _ h => h) (Or.inl ⟨by rfl, ?_⟩) (by assumption) ?_
            rotate_left; (intro w hSw; clear hSw; go_simp; try with_reducible rfl)
            all_goals (try simp only [Act.put, List.setIfInBounds_toArray, List.set_cons_zero, List.set_cons_succ])
            refine take_d (i := 26) (some 326) (v := ?_) rfl rfl (by kernel_rfl) (by kernel_rfl) (by kernel_rfl) (fun _ _ _ h => h) (Or.inl ⟨by rfl, ?_⟩) (by assumption) ?_
            rotate_left; (intro w hSw; clear hSw; go_simp; try with_reducible rfl)
            all_goals (try simp only [Act.put, List.setIfInBounds_toArray, List.set_cons_zero, List.set_cons_succ])
            refine take_d (i := 27) (some 327) (v := bif zm then undef else .int .i64 mg) rfl rfl (by kernel_rfl) (by kernel_rfl) (by kernel_rfl) (fun _ _ _ h => h) ?hY27 (by assumption) ?_
            case hY27 =>
              cases zm
              · obtain rfl := HZP.out rfl
                exact Or.inl ⟨by rfl, by (intro w hSw; clear hSw; go_simp; try with_reducible rfl)⟩
              · exact Or.inr ⟨by rfl, rfl⟩
            all_goals (try simp only [Act.put, List.setIfInBounds_toArray, List.set_cons_zero, List.set_cons_succ])
            refine take_d (i := 28) (some 328) (v := bif zm then undef else .bool true) rfl rfl (by kernel_rfl) (by kernel_rfl) (by kernel_rfl) (fun _ _ _ h => h) ?hY28 (by assumption) ?_
            case hY28 =>
              cases zm
              · obtain rfl := HZP.out rfl
                exact Or.inl ⟨by rfl, by (intro w hSw; clear hSw; go_simp; try with_reducible rfl)⟩
              · exact Or.inr ⟨by rfl, rfl⟩
            all_goals (try simp only [Act.put, List.setIfInBounds_toArray, List.set_cons_zero, List.set_cons_succ])
            refine take_d (i := 29) (some 329) (v := .bool true) rfl rfl (by kernel_rfl) (by kernel_rfl) (by kernel_rfl) (fun _ _ _ h => h) ?hY29 (by assumption) ?_
            case hY29 =>
              cases zm
              · exact Or.inl ⟨by rfl, by (intro w hSw; clear hSw; go_simp; try with_reducible rfl)⟩
              · exact Or.inl ⟨by rfl, by (intro w hSw; clear hSw; go_simp; try with_reducible rfl)⟩
            all_goals (try simp only [Act.put, List.setIfInBounds_toArray, List.set_cons_zero, List.set_cons_succ])
            refine take_d (i := 30) (some 330) (v := ?_) rfl rfl (by kernel_rfl) (by kernel_rfl) (by kernel_rfl) (fun _ _ _ h => h) (Or.inl ⟨by rfl, ?_⟩) (by assumption) ?_
            rotate_left; (intro w hSw; clear hSw; go_simp; try with_reducible rfl)
            all_goals (try simp only [Act.put, List.setIfInBounds_toArray, List.set_cons_zero, List.set_cons_succ])
            refine take_d (i := 31) (some 2) (v := ?_) rfl rfl (by kernel_rfl) (by kernel_rfl) (by kernel_rfl) (fun _ _ _ h => h) (Or.inl ⟨by rfl, ?_⟩) (by assumption) ?_
            rotate_left; (intro w hSw; clear hSw; go_simp; try with_reducible rfl)
            all_goals (try simp only [Act.put, List.setIfInBounds_toArray, List.set_cons_zero, List.set_cons_succ])
            refine wpAnyH_done (by kernel_rfl) ?_ _
            (try refine NoPanic.normal ?_)
            go_wp2
            go_ret
            exact ⟨rfl, hB⟩
          exact AllReadyH.nil

namespace fnSlidesKeep
set_option maxRecDepth 100000 in
theorem lifted (os : Os) (started : os.Started) (H : Type) (enc : TypeId × Value → H) :
    ReturnsInHanded {} Try.checked os 4 .any (Rows.fnSlidesKeepSpec.pre6 enc Try.prog Try.f4 Rows.fnSlidesKeepRow.domain false) (Rows.fnSlidesKeepSpec.post enc Try.prog Try.f4 false true false false) := by
  refine returnsInHanded_of_change_sized (C := Try.checked) own started (by kernel_rfl) Try.func4
    (ChangeSpec.witness6 (enc := enc) (C := Try.checked) false ⟨#[], #[.slice none 0 0], []⟩ 8 (by kernel_rfl) (by kernel_rfl) (by kernel_rfl) (by kernel_rfl)) ?_
  intro W base args ds gs before hval0 hW hcnd hsz0 _
  have hval : ∀ (j : Nat) t v, Try.f4.params[j]? = some t → args[j]? = some v → Value.okWide Try.prog W .any base t v := hval0
  have hW' := hW
  obtain ⟨p, q, hA0, hV, rfl, hfz, hnd⟩ := hW
  have hA : DataW.TrodAll enc Try.prog W 0 (fun _ => true) true Try.f4.params.toList args.toList ds p := hA0
  have hA1 := hA
  rw [Try.params4] at hA hval
  obtain ⟨v0, vs0, d0, ds0, p0, q0, hargs, rfl, rfl, h0, r0⟩ := trodAll_cons hA
  obtain ⟨rfl, rfl, rfl⟩ := trodAll_nil r0
  obtain rfl : args = #[v0] := by cases args; simp_all
  obtain ⟨rfl, rfl⟩ := trodVars_none hV
  obtain ⟨A0, n0, cap0, x0, rfl, _, b0⟩ := bytes_arg Try.underlying22 Try.underlying5 (by kernel_rfl) (hval 0 22 v0 rfl rfl) h0
  have keep : ∀ W', Below W.heap.size W W' → DataW.TrodAll enc Try.prog W' 0 (fun b => decide (b < W.heap.size)) true Try.f4.params.toList _ _ _ := fun W' hb => trodAll_below laidOut hb (by kernel_rfl) hA1
  refine (walk W A0 n0 cap0 x0 b0).mono fun e W' ⟨he, bel⟩ => ?_
  subst he
  exact ⟨_, rfl, _, _, _, [], _, [], hW', trodAll_mk1 (shut_bool Try.underlying4 _), keep W' bel, rfl, bel.frame _, fun h => by cases h⟩
set_option maxRecDepth 100000 in
set_option maxHeartbeats 8000000 in
theorem closed : joinedFacts Try.prog 4 Try.f4 Rows.fnSlidesKeepSpec Rows.fnSlidesKeepRow = true := by
  unfold joinedFacts
  refine and2 (and2 (and2 (and2 (and2 (and2 (and2 ?_ Head.mayEnter) ?_) ?_) ?_) ?_) ?_) ?_
  · refine and2 (and2 (and2 (and2 (and2 (and2 (and2 (and2 (and2 (and2 (and2 (and2 (and2 (and2 (and2 ?_ ?_) ?_) ?_) ?_) ?_) ?_) ?_) ?_) ?_) ?_) ?_) ?_) ?_) ?_) ?_
    all_goals (as_aux_lemma => kernel_rfl)
  · rw [Head.liftsFinal]; kernel_rfl
  · rw [Head.make]; kernel_rfl
  all_goals (as_aux_lemma => kernel_rfl)
theorem proved : Rows.FnSlidesKeepSaid :=
  OpenClaim.holds_of_wide 4 Try.f4 rfl rfl rfl rfl rfl rfl rfl ⟨rfl, rfl, rfl, rfl, rfl⟩ rfl rfl rfl rfl rfl (by kernel_rfl) Try.func4 closed
    (of_decide_eq_true (by kernel_rfl)) (by unfold Func.isWrapper; first | (rw [if_pos (by decide +kernel)]; kernel_rfl) | (rw [if_neg (by decide +kernel)]; exact ⟨rfl, rfl⟩))
    (fun os started H enc _ => lifted os started H enc)
end fnSlidesKeep
theorem fnSlidesKeep_holds : Rows.FnSlidesKeepSaid := fnSlidesKeep.proved
#print axioms fnSlidesKeep_holds
end Go.Proofs.Ytegdnfmhhigjfaa
