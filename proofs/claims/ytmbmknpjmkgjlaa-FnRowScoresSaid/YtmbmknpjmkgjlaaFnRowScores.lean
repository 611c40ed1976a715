/- For every slice of bytes the law FnRowScores answers true: a settled row slides to itself, a row and its turned one have as many mergers, score alike and are alike symmetric, and the most score is at least that of one slide and what can follow. No condition. -/
import Derived.Test.YtmbmknpjmkgjlaaWrap
import Derived.Test.YtmbmknpjmkgjlaaRowDr
import Derived.Test.YtmbmknpjmkgjlaaScW
import Derived.Test.YtmbmknpjmkgjlaaBest2
import Derived.Test.YtmbmknpjmkgjlaaSym
import Derived.Test.YtmbmknpjmkgjlaaRow9
import Derived.Test.YtmbmknpjmkgjlaaRow3
import Derived.Test.YtmbmknpjmkgjlaaRow7
import Derived.Test.YtmbmknpjmkgjlaaAddR
set_option linter.unusedVariables false
namespace Go.Proofs.Ytmbmknpjmkgjlaa
open Go.ChangeShapes Go.WideShapes Go.ChangeAt Go.RowKit
open Go.ChangeMaps (open_string shut_string)

set_option maxHeartbeats 64000000 in
set_option maxRecDepth 100000 in
theorem fnRowScores.walk (w : World) (A0 : Option Addr) (n0 cap0 : Nat) (x0 : Nat → Nat) (b0 : Hid (ArgB w A0 n0 x0)) :
    Calls Try.prog 6 #[.slice A0 n0 cap0] w fun e w' => e = .returned (.bool true) ∧ Below w.heap.size w w' := by
  go_enter Try.func6, Try.ntmps6
  by_cases hbig : 65536 < n0
  · have hbi : (65536 : Int) < n0 := by omega
    go_wp2_with ((go_at_call 18); go_in)
    go_ret
    exact ⟨rfl, Below.refl _ _⟩
  · have hbi : ¬ (65536 : Int) < n0 := by omega
    have HD := hide (drawMostRowScore_any A0 n0 cap0 x0 (by omega) w b0.out)
    clear b0 hbig
    go_upto_region 4 with (first | ((go_at_call 18); go_in) | (go_at_call 19; (with_reducible refine HD.out.mono ?_); rintro e w2 ⟨r, rfl, hr, hB⟩))
    clear hr HD hbi
    generalize hW : World.alloc w2 _ = w3
    have hB' : Below w.heap.size w w3 := by (rw [← hW]; exact below_new hB _)
    have i3 : Has w3 w2.heap.size 4 (fun o => .int .i64 (r o)) := (Has.newat (n := 4) hW rfl).congr fun o ho => lit4' _ o ho
    clear hW hB ; have hB := hB'; clear hB'
    have ci3 := i3.1
    generalize w2.heap.size = Ei3 at *
    clear w2
    obtain ⟨pp, hpp⟩ : ∃ pp, pp = rowB (r 0) (r 1) (r 2) (r 3) := ⟨_, rfl⟩
    obtain ⟨mo, hmo⟩ : ∃ mo, mo = zr pp (bestL 5 r) := ⟨_, rfl⟩
    obtain ⟨la, hla⟩ : ∃ la : Nat → Int, la = fun i => zr pp (itR r (stK r) i) := ⟨_, rfl⟩
    obtain ⟨ti, hti⟩ : ∃ ti : Int, ti = zr pp (stK r : Int) := ⟨_, rfl⟩
    obtain ⟨tr, htr⟩ : ∃ tr : Nat → Int, tr = fun i => zr pp (turnR r i) := ⟨_, rfl⟩
    obtain ⟨pr, hpr⟩ : ∃ pr : Int, pr = zr pp (rowPairs r) := ⟨_, rfl⟩
    obtain ⟨sy, hsy⟩ : ∃ sy : Bool, sy = (pp && symB r) := ⟨_, rfl⟩
    have M1 : Hid (∀ w, Calls Try.prog 20 #[.agg #[.int .i64 (r 0), .int .i64 (r 1), .int .i64 (r 2), .int .i64 (r 3)]] w fun e w' => e = .returned (.tuple #[.int .i64 mo, .bool pp]) ∧ Below w.heap.size w w') := hide (by rw [hmo, hpp]; exact mostRowScore_any r)
    have M2 : Hid (∀ w, Calls Try.prog 21 #[.agg #[.int .i64 (r 0), .int .i64 (r 1), .int .i64 (r 2), .int .i64 (r 3)]] w fun e w' => e = .returned (.tuple #[.int .i64 mo, .bool pp]) ∧ Below w.heap.size w w') := hide (by rw [hmo, hpp]; exact specMostRowScore_any r)
    have S1 : Hid (∀ w, Calls Try.prog 22 #[.agg #[.int .i64 (r 0), .int .i64 (r 1), .int .i64 (r 2), .int .i64 (r 3)]] w fun e w' => e = .returned (.tuple #[.agg #[.int .i64 (la 0), .int .i64 (la 1), .int .i64 (la 2), .int .i64 (la 3)], .int .i64 ti, .bool pp]) ∧ Below w.heap.size w w') := hide (by rw [hla, hti, hpp]; exact settleRow_any r)
    have S2 : Hid (∀ w, Calls Try.prog 23 #[.agg #[.int .i64 (r 0), .int .i64 (r 1), .int .i64 (r 2), .int .i64 (r 3)]] w fun e w' => e = .returned (.tuple #[.agg #[.int .i64 (la 0), .int .i64 (la 1), .int .i64 (la 2), .int .i64 (la 3)], .int .i64 ti, .bool pp]) ∧ Below w.heap.size w w') := hide (by rw [hla, hti, hpp]; exact specSettleRow_any r)
    have T1 : Hid (∀ w, Calls Try.prog 24 #[.agg #[.int .i64 (r 0), .int .i64 (r 1), .int .i64 (r 2), .int .i64 (r 3)]] w fun e w' => e = .returned (.tuple #[.agg #[.int .i64 (tr 0), .int .i64 (tr 1), .int .i64 (tr 2), .int .i64 (tr 3)], .bool pp]) ∧ Below w.heap.size w w') := hide (by rw [htr, hpp]; exact turnRow_any (r 0) (r 1) (r 2) (r 3))
    have T2 : Hid (∀ w, Calls Try.prog 25 #[.agg #[.int .i64 (r 0), .int .i64 (r 1), .int .i64 (r 2), .int .i64 (r 3)]] w fun e w' => e = .returned (.tuple #[.agg #[.int .i64 (tr 0), .int .i64 (tr 1), .int .i64 (tr 2), .int .i64 (tr 3)], .bool pp]) ∧ Below w.heap.size w w') := hide (by rw [htr, hpp]; exact specTurnRow_any (r 0) (r 1) (r 2) (r 3))
    have P1 : Hid (∀ w, Calls Try.prog 26 #[.agg #[.int .i64 (r 0), .int .i64 (r 1), .int .i64 (r 2), .int .i64 (r 3)]] w fun e w' => e = .returned (.tuple #[.int .i64 pr, .bool pp]) ∧ Below w.heap.size w w') := hide (by rw [hpr, hpp]; exact rowPairs_any r)
    have P2 : Hid (∀ w, Calls Try.prog 27 #[.agg #[.int .i64 (r 0), .int .i64 (r 1), .int .i64 (r 2), .int .i64 (r 3)]] w fun e w' => e = .returned (.tuple #[.int .i64 pr, .bool pp]) ∧ Below w.heap.size w w') := hide (by rw [hpr, hpp]; exact specRowPairs_any r)
    have Y1 : Hid (∀ w, Calls Try.prog 28 #[.agg #[.int .i64 (r 0), .int .i64 (r 1), .int .i64 (r 2), .int .i64 (r 3)]] w fun e w' => e = .returned (.tuple #[.bool sy, .bool pp]) ∧ Below w.heap.size w w') := hide (by rw [hsy, hpp]; exact isSymmetricRow_any r)
    have Y2 : Hid (∀ w, Calls Try.prog 29 #[.agg #[.int .i64 (r 0), .int .i64 (r 1), .int .i64 (r 2), .int .i64 (r 3)]] w fun e w' => e = .returned (.tuple #[.bool sy, .bool pp]) ∧ Below w.heap.size w w') := hide (by rw [hsy, hpp]; exact specIsSymmetricRow_any r)
    have HV := hide (And.intro hpp (And.intro hmo (And.intro hla (And.intro hti (And.intro htr (And.intro hpr hsy))))))
    clear hpp hmo hla hti htr hpr hsy
    have n1 := neq_R la la
    rw [ordR.refl la] at n1
    have n2 := neq_R tr tr
    rw [ordR.refl tr] at n2
    go_upto_region 5 with (first | (go_at_call 20; (with_reducible refine (M1.out _).mono ?_); rintro e w2 ⟨rfl, hb2⟩; have hB' := below_go hB hb2; have i3' := i3.call hb2; clear hB hb2 i3 ci3; have hB := hB'; clear hB'; have i3 := i3'; clear i3'; have ci3 := i3.1; skip) | fail)
    go_upto_region 6 with (first | (go_at_call 21; (with_reducible refine (M2.out _).mono ?_); rintro e w2 ⟨rfl, hb2⟩; have hB' := below_go hB hb2; have i3' := i3.call hb2; clear hB hb2 i3 ci3; have hB := hB'; clear hB'; have i3 := i3'; clear i3'; have ci3 := i3.1; skip) | fail)
    go_upto_region 8 with (first | fail)
    go_upto_region 9 with (first | (go_at_call 22; (with_reducible refine (S1.out _).mono ?_); rintro e w2 ⟨rfl, hb2⟩; have hB' := below_go hB hb2; have i3' := i3.call hb2; clear hB hb2 i3 ci3; have hB := hB'; clear hB'; have i3 := i3'; clear i3'; have ci3 := i3.1; skip) | fail)
    generalize hW : World.alloc w2 _ = w3
    have hB' : Below w.heap.size w w3 := by (rw [← hW]; exact below_new hB _)
    have i3' := Has.at hW (i3.alloc _)
    have i8 : Has w3 w2.heap.size 4 (fun o => .int .i64 (la o)) := (Has.newat (n := 4) hW rfl).congr fun o ho => lit4' _ o ho
    clear hW hB i3 ci3; have hB := hB'; clear hB'
    have i3 := i3'; clear i3'; have ci3 := i3.1
    have ci8 := i8.1
    generalize w2.heap.size = Ei8 at *
    clear w2
    go_upto_region 10 with (first | (go_at_call 23; (with_reducible refine (S2.out _).mono ?_); rintro e w2 ⟨rfl, hb2⟩; have hB' := below_go hB hb2; have i3' := i3.call hb2; have i8' := i8.call hb2; clear hB hb2 i3 i8 ci3 ci8; have hB := hB'; clear hB'; have i3 := i3'; clear i3'; have ci3 := i3.1; have i8 := i8'; clear i8'; have ci8 := i8.1; skip) | fail)
    generalize hW : World.alloc w2 _ = w3
    have hB' : Below w.heap.size w w3 := by (rw [← hW]; exact below_new hB _)
    have i3' := Has.at hW (i3.alloc _)
    have i8' := Has.at hW (i8.alloc _)
    have i11 : Has w3 w2.heap.size 4 (fun o => .int .i64 (la o)) := (Has.newat (n := 4) hW rfl).congr fun o ho => lit4' _ o ho
    clear hW hB i3 i8 ci3 ci8; have hB := hB'; clear hB'
    have i3 := i3'; clear i3'; have ci3 := i3.1
    have i8 := i8'; clear i8'; have ci8 := i8.1
    have ci11 := i11.1
    generalize w2.heap.size = Ei11 at *
    clear w2
    go_upto_region 12 with (first | fail)
    go_upto_region 13 with (first | (go_at_call 24; (with_reducible refine (T1.out _).mono ?_); rintro e w2 ⟨rfl, hb2⟩; have hB' := below_go hB hb2; have i3' := i3.call hb2; have i8' := i8.call hb2; have i11' := i11.call hb2; clear hB hb2 i3 i8 i11 ci3 ci8 ci11; have hB := hB'; clear hB'; have i3 := i3'; clear i3'; have ci3 := i3.1; have i8 := i8'; clear i8'; have ci8 := i8.1; have i11 := i11'; clear i11'; have ci11 := i11.1; skip) | fail)
    generalize hW : World.alloc w2 _ = w3
    have hB' : Below w.heap.size w w3 := by (rw [← hW]; exact below_new hB _)
    have i3' := Has.at hW (i3.alloc _)
    have i8' := Has.at hW (i8.alloc _)
    have i11' := Has.at hW (i11.alloc _)
    have i14 : Has w3 w2.heap.size 4 (fun o => .int .i64 (tr o)) := (Has.newat (n := 4) hW rfl).congr fun o ho => lit4' _ o ho
    clear hW hB i3 i8 i11 ci3 ci8 ci11; have hB := hB'; clear hB'
    have i3 := i3'; clear i3'; have ci3 := i3.1
    have i8 := i8'; clear i8'; have ci8 := i8.1
    have i11 := i11'; clear i11'; have ci11 := i11.1
    have ci14 := i14.1
    generalize w2.heap.size = Ei14 at *
    clear w2
    go_upto_region 14 with (first | (go_at_call 25; (with_reducible refine (T2.out _).mono ?_); rintro e w2 ⟨rfl, hb2⟩; have hB' := below_go hB hb2; have i3' := i3.call hb2; have i8' := i8.call hb2; have i11' := i11.call hb2; have i14' := i14.call hb2; clear hB hb2 i3 i8 i11 i14 ci3 ci8 ci11 ci14; have hB := hB'; clear hB'; have i3 := i3'; clear i3'; have ci3 := i3.1; have i8 := i8'; clear i8'; have ci8 := i8.1; have i11 := i11'; clear i11'; have ci11 := i11.1; have i14 := i14'; clear i14'; have ci14 := i14.1; skip) | fail)
    generalize hW : World.alloc w2 _ = w3
    have hB' : Below w.heap.size w w3 := by (rw [← hW]; exact below_new hB _)
    have i3' := Has.at hW (i3.alloc _)
    have i8' := Has.at hW (i8.alloc _)
    have i11' := Has.at hW (i11.alloc _)
    have i14' := Has.at hW (i14.alloc _)
    have i16 : Has w3 w2.heap.size 4 (fun o => .int .i64 (tr o)) := (Has.newat (n := 4) hW rfl).congr fun o ho => lit4' _ o ho
    clear hW hB i3 i8 i11 i14 ci3 ci8 ci11 ci14; have hB := hB'; clear hB'
    have i3 := i3'; clear i3'; have ci3 := i3.1
    have i8 := i8'; clear i8'; have ci8 := i8.1
    have i11 := i11'; clear i11'; have ci11 := i11.1
    have i14 := i14'; clear i14'; have ci14 := i14.1
    have ci16 := i16.1
    generalize w2.heap.size = Ei16 at *
    clear w2
    go_upto_region 16 with (first | fail)
    go_upto_region 17 with (first | (go_at_call 26; (with_reducible refine (P1.out _).mono ?_); rintro e w2 ⟨rfl, hb2⟩; have hB' := below_go hB hb2; have i3' := i3.call hb2; have i8' := i8.call hb2; have i11' := i11.call hb2; have i14' := i14.call hb2; have i16' := i16.call hb2; clear hB hb2 i3 i8 i11 i14 i16 ci3 ci8 ci11 ci14 ci16; have hB := hB'; clear hB'; have i3 := i3'; clear i3'; have ci3 := i3.1; have i8 := i8'; clear i8'; have ci8 := i8.1; have i11 := i11'; clear i11'; have ci11 := i11.1; have i14 := i14'; clear i14'; have ci14 := i14.1; have i16 := i16'; clear i16'; have ci16 := i16.1; skip) | fail)
    go_upto_region 18 with (first | (go_at_call 27; (with_reducible refine (P2.out _).mono ?_); rintro e w2 ⟨rfl, hb2⟩; have hB' := below_go hB hb2; have i3' := i3.call hb2; have i8' := i8.call hb2; have i11' := i11.call hb2; have i14' := i14.call hb2; have i16' := i16.call hb2; clear hB hb2 i3 i8 i11 i14 i16 ci3 ci8 ci11 ci14 ci16; have hB := hB'; clear hB'; have i3 := i3'; clear i3'; have ci3 := i3.1; have i8 := i8'; clear i8'; have ci8 := i8.1; have i11 := i11'; clear i11'; have ci11 := i11.1; have i14 := i14'; clear i14'; have ci14 := i14.1; have i16 := i16'; clear i16'; have ci16 := i16.1; skip) | fail)
    go_upto_region 20 with (first | fail)
    go_upto_region 21 with (first | (go_at_call 28; (with_reducible refine (Y1.out _).mono ?_); rintro e w2 ⟨rfl, hb2⟩; have hB' := below_go hB hb2; have i3' := i3.call hb2; have i8' := i8.call hb2; have i11' := i11.call hb2; have i14' := i14.call hb2; have i16' := i16.call hb2; clear hB hb2 i3 i8 i11 i14 i16 ci3 ci8 ci11 ci14 ci16; have hB := hB'; clear hB'; have i3 := i3'; clear i3'; have ci3 := i3.1; have i8 := i8'; clear i8'; have ci8 := i8.1; have i11 := i11'; clear i11'; have ci11 := i11.1; have i14 := i14'; clear i14'; have ci14 := i14.1; have i16 := i16'; clear i16'; have ci16 := i16.1; skip) | fail)
    go_upto_region 22 with (first | (go_at_call 29; (with_reducible refine (Y2.out _).mono ?_); rintro e w2 ⟨rfl, hb2⟩; have hB' := below_go hB hb2; have i3' := i3.call hb2; have i8' := i8.call hb2; have i11' := i11.call hb2; have i14' := i14.call hb2; have i16' := i16.call hb2; clear hB hb2 i3 i8 i11 i14 i16 ci3 ci8 ci11 ci14 ci16; have hB := hB'; clear hB'; have i3 := i3'; clear i3'; have ci3 := i3.1; have i8 := i8'; clear i8'; have ci8 := i8.1; have i11 := i11'; clear i11'; have ci11 := i11.1; have i14 := i14'; clear i14'; have ci14 := i14.1; have i16 := i16'; clear i16'; have ci16 := i16.1; skip) | fail)
    go_upto_region 24 with (first | fail)
    clear M1 M2 S1 S2 T1 T2 P1 P2 Y1 Y2 n1 n2
    cases pp
    · go_wp2
      go_ret
      exact ⟨rfl, hB⟩
    · obtain ⟨hpp, hmo, hla, hti, htr, hpr, hsy⟩ := HV.out
      simp only [zr_true, Bool.true_and] at hmo hla hti htr hpr hsy
      have hr := rowB_in hpp.symm
      obtain ⟨_, hfix, hles⟩ := stK_spec hr
      have hti4 : ti ≤ 4 := by rw [hti]; have := settle_le hr hles; omega
      have hlr : ∀ i, i < 4 → 0 ≤ la i ∧ la i ≤ 17 := by rw [hla]; exact itR_in hr (stK r)
      have htrr : ∀ i, i < 4 → 0 ≤ tr i ∧ tr i ≤ 17 := by rw [htr]; exact turnR_in hr
      obtain ⟨sl, hsl⟩ : ∃ sl : Nat → Int, sl = (SR.slid la).out := ⟨_, rfl⟩
      obtain ⟨sc0, hsc0⟩ : ∃ sc0 : Int, sc0 = (SR.slid la).score := ⟨_, rfl⟩
      obtain ⟨nx, hnx⟩ : ∃ nx : Nat → Int, nx = (SR.slid r).out := ⟨_, rfl⟩
      obtain ⟨sc, hsc⟩ : ∃ sc : Int, sc = (SR.slid r).score := ⟨_, rfl⟩
      obtain ⟨re, hre⟩ : ∃ re : Int, re = bestL 5 nx := ⟨_, rfl⟩
      have hnxr : ∀ i, i < 4 → 0 ≤ nx i ∧ nx i ≤ 17 := by rw [hnx]; exact slid_in' hr
      have heq : eqR sl la = true := eqR_true.2 (by rw [hsl, hla]; exact hfix)
      have htr' : tr = turnR r := htr
      have hble := bestL_le hr 5
      have hbnx := bestL_le hnxr 5
      have hscl := (SR.slid_ok hr).lo
      have hbs : sc + re ≤ mo := by rw [hsc, hre, hnx, hmo]; exact best_slide hr
      have hw : IntKind.i64.wrap (sc + re) = sc + re := IntWalk.i64_in _ (by rw [← hsc] at hscl; rw [← hre] at hbnx; rw [← hmo] at hble; omega)
      have L1 : Hid (∀ w, Calls Try.prog 30 #[.agg #[.int .i64 (la 0), .int .i64 (la 1), .int .i64 (la 2), .int .i64 (la 3)]] w fun e w' => e = .returned (.tuple #[.agg #[.int .i64 (sl 0), .int .i64 (sl 1), .int .i64 (sl 2), .int .i64 (sl 3)], .int .i64 sc0, .bool true]) ∧ Below w.heap.size w w') := hide (by
        have h := slideRowX_any la
        rw [rowB_of hlr] at h
        rw [hsl, hsc0]; exact h)
      have P3 : Hid (∀ w, Calls Try.prog 26 #[.agg #[.int .i64 (tr 0), .int .i64 (tr 1), .int .i64 (tr 2), .int .i64 (tr 3)]] w fun e w' => e = .returned (.tuple #[.int .i64 pr, .bool true]) ∧ Below w.heap.size w w') := hide (by
        have h := rowPairs_any tr
        rw [rowB_of htrr] at h
        have e : rowPairs tr = pr := by
          rw [hpr, htr']
          unfold rowPairs
          rw [slid_len hr, slid_len (turnR_in hr), n_turn, tilesL_turn, List.length_reverse]
        rw [zr_true, e] at h
        exact h)
      have Y3 : Hid (∀ w, Calls Try.prog 28 #[.agg #[.int .i64 (tr 0), .int .i64 (tr 1), .int .i64 (tr 2), .int .i64 (tr 3)]] w fun e w' => e = .returned (.tuple #[.bool sy, .bool true]) ∧ Below w.heap.size w w') := hide (by
        have h := isSymmetricRow_any tr
        rw [rowB_of htrr] at h
        have e : symB tr = sy := by rw [hsy, htr']; exact symB_turn hr
        rw [Bool.true_and, e] at h
        exact h)
      have M3 : Hid (∀ w, Calls Try.prog 20 #[.agg #[.int .i64 (tr 0), .int .i64 (tr 1), .int .i64 (tr 2), .int .i64 (tr 3)]] w fun e w' => e = .returned (.tuple #[.int .i64 mo, .bool true]) ∧ Below w.heap.size w w') := hide (by
        have h := mostRowScore_any tr
        rw [rowB_of htrr] at h
        have e : bestL 5 tr = mo := by rw [hmo, htr']; exact bestL_turn hr 5
        rw [← e]; exact h)
      have L2 : Hid (∀ w, Calls Try.prog 30 #[.agg #[.int .i64 (r 0), .int .i64 (r 1), .int .i64 (r 2), .int .i64 (r 3)]] w fun e w' => e = .returned (.tuple #[.agg #[.int .i64 (nx 0), .int .i64 (nx 1), .int .i64 (nx 2), .int .i64 (nx 3)], .int .i64 sc, .bool true]) ∧ Below w.heap.size w w') := hide (by
        have h := slideRowX_any r
        rw [rowB_of hr] at h
        rw [hnx, hsc]; exact h)
      have M4 : Hid (∀ w, Calls Try.prog 20 #[.agg #[.int .i64 (nx 0), .int .i64 (nx 1), .int .i64 (nx 2), .int .i64 (nx 3)]] w fun e w' => e = .returned (.tuple #[.int .i64 re, .bool true]) ∧ Below w.heap.size w w') := hide (by
        have h := mostRowScore_any nx
        rw [rowB_of hnxr] at h
        rw [hre]; exact h)
      have hE := eql_R sl la
      rw [heq] at hE
      clear HV hpp hmo hla hti htr hpr hsy hr hfix hles hlr htrr hsl hsc0 hnx hsc hre hnxr heq htr' hble hbnx hscl
      go_upto_region 27 with (first | (go_at_call 30; (with_reducible refine (L1.out _).mono ?_); rintro e w2 ⟨rfl, hb2⟩; have hB' := below_go hB hb2; have i3' := i3.call hb2; have i8' := i8.call hb2; have i11' := i11.call hb2; have i14' := i14.call hb2; have i16' := i16.call hb2; clear hB hb2 i3 i8 i11 i14 i16 ci3 ci8 ci11 ci14 ci16; have hB := hB'; clear hB'; have i3 := i3'; clear i3'; have ci3 := i3.1; have i8 := i8'; clear i8'; have ci8 := i8.1; have i11 := i11'; clear i11'; have ci11 := i11.1; have i14 := i14'; clear i14'; have ci14 := i14.1; have i16 := i16'; clear i16'; have ci16 := i16.1; skip) | fail)
      generalize hW : World.alloc w2 _ = w3
      have hB' : Below w.heap.size w w3 := by (rw [← hW]; exact below_new hB _)
      have i3' := Has.at hW (i3.alloc _)
      have i8' := Has.at hW (i8.alloc _)
      have i11' := Has.at hW (i11.alloc _)
      have i14' := Has.at hW (i14.alloc _)
      have i16' := Has.at hW (i16.alloc _)
      have i26 : Has w3 w2.heap.size 4 (fun o => .int .i64 (sl o)) := (Has.newat (n := 4) hW rfl).congr fun o ho => lit4' _ o ho
      clear hW hB i3 i8 i11 i14 i16 ci3 ci8 ci11 ci14 ci16; have hB := hB'; clear hB'
      have i3 := i3'; clear i3'; have ci3 := i3.1
      have i8 := i8'; clear i8'; have ci8 := i8.1
      have i11 := i11'; clear i11'; have ci11 := i11.1
      have i14 := i14'; clear i14'; have ci14 := i14.1
      have i16 := i16'; clear i16'; have ci16 := i16.1
      have ci26 := i26.1
      generalize w2.heap.size = Ei26 at *
      clear w2
      go_upto_region 28 with (first | (go_at_call 26; (with_reducible refine (P3.out _).mono ?_); rintro e w2 ⟨rfl, hb2⟩; have hB' := below_go hB hb2; have i3' := i3.call hb2; have i8' := i8.call hb2; have i11' := i11.call hb2; have i14' := i14.call hb2; have i16' := i16.call hb2; have i26' := i26.call hb2; clear hB hb2 i3 i8 i11 i14 i16 i26 ci3 ci8 ci11 ci14 ci16 ci26; have hB := hB'; clear hB'; have i3 := i3'; clear i3'; have ci3 := i3.1; have i8 := i8'; clear i8'; have ci8 := i8.1; have i11 := i11'; clear i11'; have ci11 := i11.1; have i14 := i14'; clear i14'; have ci14 := i14.1; have i16 := i16'; clear i16'; have ci16 := i16.1; have i26 := i26'; clear i26'; have ci26 := i26.1; skip) | fail)
      go_upto_region 29 with (first | (go_at_call 28; (with_reducible refine (Y3.out _).mono ?_); rintro e w2 ⟨rfl, hb2⟩; have hB' := below_go hB hb2; have i3' := i3.call hb2; have i8' := i8.call hb2; have i11' := i11.call hb2; have i14' := i14.call hb2; have i16' := i16.call hb2; have i26' := i26.call hb2; clear hB hb2 i3 i8 i11 i14 i16 i26 ci3 ci8 ci11 ci14 ci16 ci26; have hB := hB'; clear hB'; have i3 := i3'; clear i3'; have ci3 := i3.1; have i8 := i8'; clear i8'; have ci8 := i8.1; have i11 := i11'; clear i11'; have ci11 := i11.1; have i14 := i14'; clear i14'; have ci14 := i14.1; have i16 := i16'; clear i16'; have ci16 := i16.1; have i26 := i26'; clear i26'; have ci26 := i26.1; skip) | fail)
      go_upto_region 30 with (first | (go_at_call 20; (with_reducible refine (M3.out _).mono ?_); rintro e w2 ⟨rfl, hb2⟩; have hB' := below_go hB hb2; have i3' := i3.call hb2; have i8' := i8.call hb2; have i11' := i11.call hb2; have i14' := i14.call hb2; have i16' := i16.call hb2; have i26' := i26.call hb2; clear hB hb2 i3 i8 i11 i14 i16 i26 ci3 ci8 ci11 ci14 ci16 ci26; have hB := hB'; clear hB'; have i3 := i3'; clear i3'; have ci3 := i3.1; have i8 := i8'; clear i8'; have ci8 := i8.1; have i11 := i11'; clear i11'; have ci11 := i11.1; have i14 := i14'; clear i14'; have ci14 := i14.1; have i16 := i16'; clear i16'; have ci16 := i16.1; have i26 := i26'; clear i26'; have ci26 := i26.1; skip) | fail)
      go_upto_region 31 with (first | (go_at_call 30; (with_reducible refine (L2.out _).mono ?_); rintro e w2 ⟨rfl, hb2⟩; have hB' := below_go hB hb2; have i3' := i3.call hb2; have i8' := i8.call hb2; have i11' := i11.call hb2; have i14' := i14.call hb2; have i16' := i16.call hb2; have i26' := i26.call hb2; clear hB hb2 i3 i8 i11 i14 i16 i26 ci3 ci8 ci11 ci14 ci16 ci26; have hB := hB'; clear hB'; have i3 := i3'; clear i3'; have ci3 := i3.1; have i8 := i8'; clear i8'; have ci8 := i8.1; have i11 := i11'; clear i11'; have ci11 := i11.1; have i14 := i14'; clear i14'; have ci14 := i14.1; have i16 := i16'; clear i16'; have ci16 := i16.1; have i26 := i26'; clear i26'; have ci26 := i26.1; skip) | fail)
      generalize hW : World.alloc w2 _ = w3
      have hB' : Below w.heap.size w w3 := by (rw [← hW]; exact below_new hB _)
      have i3' := Has.at hW (i3.alloc _)
      have i8' := Has.at hW (i8.alloc _)
      have i11' := Has.at hW (i11.alloc _)
      have i14' := Has.at hW (i14.alloc _)
      have i16' := Has.at hW (i16.alloc _)
      have i26' := Has.at hW (i26.alloc _)
      have i35 : Has w3 w2.heap.size 4 (fun o => .int .i64 (nx o)) := (Has.newat (n := 4) hW rfl).congr fun o ho => lit4' _ o ho
      clear hW hB i3 i8 i11 i14 i16 i26 ci3 ci8 ci11 ci14 ci16 ci26; have hB := hB'; clear hB'
      have i3 := i3'; clear i3'; have ci3 := i3.1
      have i8 := i8'; clear i8'; have ci8 := i8.1
      have i11 := i11'; clear i11'; have ci11 := i11.1
      have i14 := i14'; clear i14'; have ci14 := i14.1
      have i16 := i16'; clear i16'; have ci16 := i16.1
      have i26 := i26'; clear i26'; have ci26 := i26.1
      have ci35 := i35.1
      generalize w2.heap.size = Ei35 at *
      clear w2
      go_upto_region 32 with (first | (go_at_call 20; (with_reducible refine (M4.out _).mono ?_); rintro e w2 ⟨rfl, hb2⟩; have hB' := below_go hB hb2; have i3' := i3.call hb2; have i8' := i8.call hb2; have i11' := i11.call hb2; have i14' := i14.call hb2; have i16' := i16.call hb2; have i26' := i26.call hb2; have i35' := i35.call hb2; clear hB hb2 i3 i8 i11 i14 i16 i26 i35 ci3 ci8 ci11 ci14 ci16 ci26 ci35; have hB := hB'; clear hB'; have i3 := i3'; clear i3'; have ci3 := i3.1; have i8 := i8'; clear i8'; have ci8 := i8.1; have i11 := i11'; clear i11'; have ci11 := i11.1; have i14 := i14'; clear i14'; have ci14 := i14.1; have i16 := i16'; clear i16'; have ci16 := i16.1; have i26 := i26'; clear i26'; have ci26 := i26.1; have i35 := i35'; clear i35'; have ci35 := i35.1; skip) | fail)
      go_wp2_with (first | fail)
      go_ret
      exact ⟨rfl, hB⟩

namespace fnRowScores
set_option maxRecDepth 100000 in
theorem lifted (os : Os) (started : os.Started) (H : Type) (enc : TypeId × Value → H) :
    ReturnsInHanded {} Try.checked os 6 .any (Rows.fnRowScoresSpec.pre6 enc Try.prog Try.f6 Rows.fnRowScoresRow.domain false) (Rows.fnRowScoresSpec.post enc Try.prog Try.f6 false true false false) := by
  refine returnsInHanded_of_change_sized (C := Try.checked) own started (by kernel_rfl) Try.func6
    (ChangeSpec.witness6 (enc := enc) (C := Try.checked) false ⟨#[], #[.slice none 0 0], []⟩ 8 (by kernel_rfl) (by kernel_rfl) (by kernel_rfl) (by kernel_rfl)) ?_
  intro W base args ds gs before hval0 hW hcnd hsz0 _
  have hval : ∀ (j : Nat) t v, Try.f6.params[j]? = some t → args[j]? = some v → Value.okWide Try.prog W .any base t v := hval0
  have hW' := hW
  obtain ⟨p, q, hA0, hV, rfl, hfz, hnd⟩ := hW
  have hA : DataW.TrodAll enc Try.prog W 0 (fun _ => true) true Try.f6.params.toList args.toList ds p := hA0
  have hA1 := hA
  rw [Try.params6] at hA hval
  obtain ⟨v0, vs0, d0, ds0, p0, q0, hargs, rfl, rfl, h0, r0⟩ := trodAll_cons hA
  obtain ⟨rfl, rfl, rfl⟩ := trodAll_nil r0
  obtain rfl : args = #[v0] := by cases args; simp_all
  obtain ⟨rfl, rfl⟩ := trodVars_none hV
  obtain ⟨A0, n0, cap0, x0, rfl, _, b0⟩ := bytes_arg Try.underlying35 Try.underlying5 (by kernel_rfl) (hval 0 35 v0 rfl rfl) h0
  have keep : ∀ W', Below W.heap.size W W' → DataW.TrodAll enc Try.prog W' 0 (fun b => decide (b < W.heap.size)) true Try.f6.params.toList _ _ _ := fun W' hb => trodAll_below laidOut hb (by kernel_rfl) hA1
  refine (walk W A0 n0 cap0 x0 b0).mono fun e W' ⟨he, bel⟩ => ?_
  subst he
  exact ⟨_, rfl, _, _, _, [], _, [], hW', trodAll_mk1 (shut_bool Try.underlying4 _), keep W' bel, rfl, bel.frame _, fun h => by cases h⟩
set_option maxRecDepth 100000 in
set_option maxHeartbeats 8000000 in
theorem closed : joinedFacts Try.prog 6 Try.f6 Rows.fnRowScoresSpec Rows.fnRowScoresRow = true := by
  unfold joinedFacts
  refine and2 (and2 (and2 (and2 (and2 (and2 (and2 ?_ Head.mayEnter) ?_) ?_) ?_) ?_) ?_) ?_
  · refine and2 (and2 (and2 (and2 (and2 (and2 (and2 (and2 (and2 (and2 (and2 (and2 (and2 (and2 (and2 ?_ ?_) ?_) ?_) ?_) ?_) ?_) ?_) ?_) ?_) ?_) ?_) ?_) ?_) ?_) ?_
    all_goals (as_aux_lemma => kernel_rfl)
  · rw [Head.liftsFinal]; kernel_rfl
  · rw [Head.make]; kernel_rfl
  all_goals (as_aux_lemma => kernel_rfl)
theorem proved : Rows.FnRowScoresSaid :=
  OpenClaim.holds_of_wide 6 Try.f6 rfl rfl rfl rfl rfl rfl rfl ⟨rfl, rfl, rfl, rfl, rfl⟩ rfl rfl rfl rfl rfl (by kernel_rfl) Try.func6 closed
    (of_decide_eq_true (by kernel_rfl)) (by unfold Func.isWrapper; first | (rw [if_pos (by decide +kernel)]; kernel_rfl) | (rw [if_neg (by decide +kernel)]; exact ⟨rfl, rfl⟩))
    (fun os started H enc _ => lifted os started H enc)
end fnRowScores
theorem fnRowScores_holds : Rows.FnRowScoresSaid := fnRowScores.proved
#print axioms fnRowScores_holds
end Go.Proofs.Ytmbmknpjmkgjlaa
