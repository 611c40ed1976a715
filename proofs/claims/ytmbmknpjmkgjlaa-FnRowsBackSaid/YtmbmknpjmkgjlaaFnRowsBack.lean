/- For every slice of bytes the law FnRowsBack answers true: the rows before a row are just those that slide to it, images are flush, and numbers tell rows. No condition. -/
import Derived.Test.YtmbmknpjmkgjlaaWrap
import Derived.Test.YtmbmknpjmkgjlaaRowDr
import Derived.Test.YtmbmknpjmkgjlaaRbM
import Derived.Test.YtmbmknpjmkgjlaaCimI
import Derived.Test.YtmbmknpjmkgjlaaCimS
import Derived.Test.YtmbmknpjmkgjlaaRow3
import Derived.Test.YtmbmknpjmkgjlaaRow5
set_option linter.unusedVariables false
namespace Go.Proofs.Ytmbmknpjmkgjlaa
open Go.ChangeShapes Go.WideShapes Go.ChangeAt Go.RowKit
open Go.ChangeMaps (open_string shut_string)

set_option maxHeartbeats 64000000 in
set_option maxRecDepth 100000 in
theorem fnRowsBack.walk (w : World) (A0 : Option Addr) (n0 cap0 : Nat) (x0 : Nat → Nat) (b0 : Hid (ArgB w A0 n0 x0)) :
    Calls Try.prog 7 #[.slice A0 n0 cap0] w fun e w' => e = .returned (.bool true) ∧ Below w.heap.size w w' := by
  go_enter Try.func7, Try.ntmps7
  by_cases hbig : 65536 < n0
  · have hbi : (65536 : Int) < n0 := by omega
    go_wp2_with ((go_at_call 18); go_in)
    go_ret
    exact ⟨rfl, Below.refl _ _⟩
  · have hbi : ¬ (65536 : Int) < n0 := by omega
    have HD := hide (drawRowsBefore_any A0 n0 cap0 x0 (by omega) w b0.out)
    have HD2 := hide (fun wz (hb : Below w.heap.size w wz) => drawRowAt_any A0 n0 cap0 x0 (by omega) wz (b0.out.call hb))
    have HD3 := hide (fun wz (hb : Below w.heap.size w wz) => drawCountImages_any A0 n0 cap0 x0 (by omega) wz (b0.out.call hb))
    clear b0 hbig
    go_upto_region 4 with (first | ((go_at_call 18); go_in) | (go_at_call 31; (with_reducible refine HD.out.mono ?_); rintro e w2 ⟨r, rfl, hr, hB⟩))
    clear hr HD hbi
    generalize hW : World.alloc w2 _ = w3
    have hbn : Below w2.heap.size w2 w3 := by (rw [← hW]; exact below_new (Below.refl _ _) _)
    have hB' : Below w.heap.size w w3 := below_go hB hbn
    have i3 : Has w3 w2.heap.size 4 (fun o => .int .i64 (r o)) := (Has.newat (n := 4) hW rfl).congr fun o ho => lit4' _ o ho
    clear hW hbn hB ; have hB := hB'; clear hB'
    have ci3 := i3.1
    generalize w2.heap.size = Ei3 at *
    clear w2
    obtain ⟨pp, hpp⟩ : ∃ pp, pp = rowB (r 0) (r 1) (r 2) (r 3) := ⟨_, rfl⟩
    obtain ⟨li, hli⟩ : ∃ li, li = rbO r := ⟨_, rfl⟩
    obtain ⟨nL, hnL⟩ : ∃ nL, nL = li.length := ⟨_, rfl⟩
    obtain ⟨im, him⟩ : ∃ im, im = imB r := ⟨_, rfl⟩
    obtain ⟨fl, hfl⟩ : ∃ fl, fl = (rowB (r 0) (r 1) (r 2) (r 3) && flB r) := ⟨_, rfl⟩
    obtain ⟨nx, hnx⟩ : ∃ nx : Nat → Int, nx = fun i => zr pp ((SR.slid r).out i) := ⟨_, rfl⟩
    obtain ⟨sc, hsc⟩ : ∃ sc : Int, sc = zr pp (SR.slid r).score := ⟨_, rfl⟩
    obtain ⟨nu, hnu⟩ : ∃ nu : Int, nu = rowNum (r 0) (r 1) (r 2) (r 3) := ⟨_, rfl⟩
    have hn48 : nL ≤ 48 := by rw [hnL, hli]; exact rbO_le
    have B1 : Hid (∀ w, Calls Try.prog 14 #[.agg #[.int .i64 (r 0), .int .i64 (r 1), .int .i64 (r 2), .int .i64 (r 3)]] w fun e w' => ∃ A c, e = .returned (.tuple #[.slice A nL c, .bool pp]) ∧ Sl w' w.heap.size A (nL * 4) (rsC li) ∧ Below w.heap.size w w') := hide (by rw [hnL, hli, hpp]; exact rowsBeforeX_own r)
    have B2 : Hid (∀ w, Calls Try.prog 13 #[.agg #[.int .i64 (r 0), .int .i64 (r 1), .int .i64 (r 2), .int .i64 (r 3)]] w fun e w' => ∃ A c, e = .returned (.tuple #[.slice A nL c, .bool pp]) ∧ Sl w' w.heap.size A (nL * 4) (rsC li) ∧ Below w.heap.size w w') := hide (by rw [hnL, hli, hpp]; exact specRowsBefore_own r)
    have R1 : Hid (∀ w, Calls Try.prog 32 #[.agg #[.int .i64 (r 0), .int .i64 (r 1), .int .i64 (r 2), .int .i64 (r 3)]] w fun e w' => e = .returned (.bool pp) ∧ Below w.heap.size w w') := hide (by rw [hpp]; exact isRow_any (r 0) (r 1) (r 2) (r 3))
    have I1 : Hid (∀ w, Calls Try.prog 10 #[.agg #[.int .i64 (r 0), .int .i64 (r 1), .int .i64 (r 2), .int .i64 (r 3)]] w fun e w' => e = .returned (.tuple #[.bool im, .bool pp]) ∧ Below w.heap.size w w') := hide (by rw [him, hpp]; exact isImage_any r)
    have I2 : Hid (∀ w, Calls Try.prog 8 #[.agg #[.int .i64 (r 0), .int .i64 (r 1), .int .i64 (r 2), .int .i64 (r 3)]] w fun e w' => e = .returned (.tuple #[.bool im, .bool pp]) ∧ Below w.heap.size w w') := hide (by rw [him, hpp]; exact specIsImage_any r)
    have F1 : Hid (∀ w, Calls Try.prog 34 #[.agg #[.int .i64 (r 0), .int .i64 (r 1), .int .i64 (r 2), .int .i64 (r 3)]] w fun e w' => e = .returned (.tuple #[.bool fl, .bool pp]) ∧ Below w.heap.size w w') := hide (by rw [hfl, hpp]; exact isFlushX_any r)
    have F2 : Hid (∀ w, Calls Try.prog 35 #[.agg #[.int .i64 (r 0), .int .i64 (r 1), .int .i64 (r 2), .int .i64 (r 3)]] w fun e w' => e = .returned (.tuple #[.bool fl, .bool pp]) ∧ Below w.heap.size w w') := hide (by rw [hfl, hpp]; exact specIsFlush_any r)
    have S1 : Hid (∀ w, Calls Try.prog 30 #[.agg #[.int .i64 (r 0), .int .i64 (r 1), .int .i64 (r 2), .int .i64 (r 3)]] w fun e w' => e = .returned (.tuple #[.agg #[.int .i64 (nx 0), .int .i64 (nx 1), .int .i64 (nx 2), .int .i64 (nx 3)], .int .i64 sc, .bool pp]) ∧ Below w.heap.size w w') := hide (by rw [hnx, hsc, hpp]; exact slideRowX_any r)
    have S2 : Hid (∀ w, Calls Try.prog 36 #[.agg #[.int .i64 (r 0), .int .i64 (r 1), .int .i64 (r 2), .int .i64 (r 3)]] w fun e w' => e = .returned (.tuple #[.agg #[.int .i64 (nx 0), .int .i64 (nx 1), .int .i64 (nx 2), .int .i64 (nx 3)], .int .i64 sc, .bool pp]) ∧ Below w.heap.size w w') := hide (by rw [hnx, hsc, hpp]; exact specSlideRow_any r)
    have N1 : Hid (∀ w, Calls Try.prog 37 #[.agg #[.int .i64 (r 0), .int .i64 (r 1), .int .i64 (r 2), .int .i64 (r 3)]] w fun e w' => e = .returned (.tuple #[.int .i64 nu, .bool pp]) ∧ Below w.heap.size w w') := hide (by rw [hnu, hpp]; exact rowNumber_any (r 0) (r 1) (r 2) (r 3))
    have N2 : Hid (∀ w, Calls Try.prog 38 #[.agg #[.int .i64 (r 0), .int .i64 (r 1), .int .i64 (r 2), .int .i64 (r 3)]] w fun e w' => e = .returned (.tuple #[.int .i64 nu, .bool pp]) ∧ Below w.heap.size w w') := hide (by rw [hnu, hpp]; exact specRowNumber_any (r 0) (r 1) (r 2) (r 3))
    have HQ : Hid (∀ i, i < nL → (∀ w, Calls Try.prog 30 #[.agg #[.int .i64 ((atR li i) 0), .int .i64 ((atR li i) 1), .int .i64 ((atR li i) 2), .int .i64 ((atR li i) 3)]] w fun e w' => e = .returned (.tuple #[.agg #[.int .i64 ((SR.slid (atR li i)).out 0), .int .i64 ((SR.slid (atR li i)).out 1), .int .i64 ((SR.slid (atR li i)).out 2), .int .i64 ((SR.slid (atR li i)).out 3)], .int .i64 (SR.slid (atR li i)).score, .bool true]) ∧ Below w.heap.size w w') ∧ eqR (SR.slid (atR li i)).out r = true) := hide (by
      intro i hi
      cases hp : rowB (r 0) (r 1) (r 2) (r 3)
      · rw [hnL, hli, rbO_false hp] at hi
        exact absurd hi (Nat.not_lt_zero i)
      · have hm := atR_mem (l := li) (i := i) (by rw [← hnL]; exact hi)
        rw [hli, rbO_true hp] at hm
        obtain ⟨h1, h2⟩ := rbP_mem (rowB_in hp) hm
        rw [← rbO_true hp, ← hli] at h1 h2
        have h3 := slideRowX_any (atR li i)
        rw [rowB_of (fun j _ => h2 j)] at h3
        exact ⟨h3, h1⟩)
    have HP : Hid (pp = true → nx = (SR.slid r).out ∧ (∀ i, i < 4 → 0 ≤ r i ∧ r i ≤ 17) ∧ nu = 5832 * r 0 + 324 * r 1 + 18 * r 2 + r 3) := hide (by
      intro hp
      have hrb : rowB (r 0) (r 1) (r 2) (r 3) = true := hpp.symm.trans hp
      refine ⟨by rw [hnx, hp]; rfl, rowB_in hrb, by rw [hnu]; exact if_pos hrb⟩)
    have hcase : (pp = false ∧ im = false ∧ nL = 0) ∨ (pp = true ∧ im = false ∧ nL = 0) ∨ (pp = true ∧ im = true ∧ fl = true ∧ 0 < nL) := by
      cases hp : rowB (r 0) (r 1) (r 2) (r 3)
      · exact .inl ⟨hpp.trans hp, by rw [him, imB, hp]; rfl, by rw [hnL, hli, rbO_false hp]; rfl⟩
      · have h1 : im = decide (0 < nL) := by rw [him, imB, hp, Bool.true_and, hnL, hli, rbO_true hp, rbL_P]
        by_cases h0 : 0 < nL
        · refine .inr (.inr ⟨hpp.trans hp, by rw [h1]; exact decide_eq_true h0, ?_, h0⟩)
          rw [hfl, hp, Bool.true_and]
          cases hf : flB r
          · have h2 := rb_not (rowB_in hp) hf
            rw [hnL, hli, rbO_true hp, ← rbL_P, h2] at h0
            exact absurd h0 (Nat.lt_irrefl 0)
          · rfl
        · exact .inr (.inl ⟨hpp.trans hp, by rw [h1]; exact decide_eq_false h0, by omega⟩)
    clear hpp him hfl hnx hsc hnu
    have HLI := hide hli
    have HNL := hide hnL
    clear hli hnL
    have n1 := neq_R nx nx
    rw [ordR.refl nx] at n1
    have hz0 : Hid (∀ q : Nat → Int, eqR q q = true) := hide (fun q => ordR.refl q)
    rcases hcase with ⟨rfl, rfl, h0⟩ | ⟨rfl, rfl, h0⟩ | ⟨rfl, rfl, rfl, h0⟩
    · -- case 0
      subst h0
      go_upto_region 5 with (first | (go_at_call 14; (with_reducible refine (B1.out _).mono ?_); rintro e w2 ⟨A4, c4x, rfl, hS4, hb2⟩; have hB' := below_go hB hb2; have i3' := i3.call hb2; clear hB hb2 i3 ci3; have hB := hB'; clear hB'; have i3 := i3'; clear i3'; have ci3 := i3.1; skip) | fail)
      go_upto_region 6 with (first | (go_at_call 13; (with_reducible refine (B2.out _).mono ?_); rintro e w2 ⟨A6, c6x, rfl, hS6, hb2⟩; have hB' := below_go hB hb2; have i3' := i3.call hb2; have hS4' := hS4.call hb2; clear hB hb2 i3 hS4 ci3; have hB := hB'; clear hB'; have i3 := i3'; clear i3'; have ci3 := i3.1; have hS4 := hS4'; clear hS4'; skip) | fail)
      have HRR := hide (fun wz Ba Bb (h1 : Sl wz Ba A4 (0 * 4) (rsC li)) (h2 : Sl wz Bb A6 (0 * 4) (rsC li)) => by have h := rRows_same wz A4 A6 Ba Bb c4x c6x li (by rw [← HNL.out]; omega) (by rw [← HNL.out]; exact h1) (by rw [← HNL.out]; exact h2); rw [← HNL.out] at h; exact h)
      go_upto_region 8 with (first | (go_at_call 32; (with_reducible refine (R1.out _).mono ?_); rintro e w2 ⟨rfl, hb2⟩; have hB' := below_go hB hb2; have i3' := i3.call hb2; have hS4' := hS4.call hb2; have hS6' := hS6.call hb2; clear hB hb2 i3 hS4 hS6 ci3; have hB := hB'; clear hB'; have i3 := i3'; clear i3'; have ci3 := i3.1; have hS4 := hS4'; clear hS4'; have hS6 := hS6'; clear hS6'; skip) | (go_at_call 33; (with_reducible refine (HRR.out _ _ _ hS4 hS6).mono ?_); rintro e w2 ⟨rfl, hb2⟩; have hB' := below_go hB hb2; have i3' := i3.call hb2; have hS4' := hS4.call hb2; have hS6' := hS6.call hb2; clear hB hb2 i3 hS4 hS6 ci3; have hB := hB'; clear hB'; have i3 := i3'; clear i3'; have ci3 := i3.1; have hS4 := hS4'; clear hS4'; have hS6 := hS6'; clear hS6'; skip) | fail)
      go_upto_region 9 with (first | (go_at_call 10; (with_reducible refine (I1.out _).mono ?_); rintro e w2 ⟨rfl, hb2⟩; have hB' := below_go hB hb2; have i3' := i3.call hb2; have hS4' := hS4.call hb2; have hS6' := hS6.call hb2; clear hB hb2 i3 hS4 hS6 ci3; have hB := hB'; clear hB'; have i3 := i3'; clear i3'; have ci3 := i3.1; have hS4 := hS4'; clear hS4'; have hS6 := hS6'; clear hS6'; skip) | fail)
      go_upto_region 10 with (first | (go_at_call 8; (with_reducible refine (I2.out _).mono ?_); rintro e w2 ⟨rfl, hb2⟩; have hB' := below_go hB hb2; have i3' := i3.call hb2; have hS4' := hS4.call hb2; have hS6' := hS6.call hb2; clear hB hb2 i3 hS4 hS6 ci3; have hB := hB'; clear hB'; have i3 := i3'; clear i3'; have ci3 := i3.1; have hS4 := hS4'; clear hS4'; have hS6 := hS6'; clear hS6'; skip) | fail)
      go_upto_region 12 with (first | fail)
      go_upto_region 13 with (first | (go_at_call 34; (with_reducible refine (F1.out _).mono ?_); rintro e w2 ⟨rfl, hb2⟩; have hB' := below_go hB hb2; have i3' := i3.call hb2; have hS4' := hS4.call hb2; have hS6' := hS6.call hb2; clear hB hb2 i3 hS4 hS6 ci3; have hB := hB'; clear hB'; have i3 := i3'; clear i3'; have ci3 := i3.1; have hS4 := hS4'; clear hS4'; have hS6 := hS6'; clear hS6'; skip) | fail)
      go_upto_region 14 with (first | (go_at_call 35; (with_reducible refine (F2.out _).mono ?_); rintro e w2 ⟨rfl, hb2⟩; have hB' := below_go hB hb2; have i3' := i3.call hb2; have hS4' := hS4.call hb2; have hS6' := hS6.call hb2; clear hB hb2 i3 hS4 hS6 ci3; have hB := hB'; clear hB'; have i3 := i3'; clear i3'; have ci3 := i3.1; have hS4 := hS4'; clear hS4'; have hS6 := hS6'; clear hS6'; skip) | fail)
      go_upto_region 16 with (first | fail)
      go_upto_region 17 with (first | (go_at_call 30; (with_reducible refine (S1.out _).mono ?_); rintro e w2 ⟨rfl, hb2⟩; have hB' := below_go hB hb2; have i3' := i3.call hb2; have hS4' := hS4.call hb2; have hS6' := hS6.call hb2; clear hB hb2 i3 hS4 hS6 ci3; have hB := hB'; clear hB'; have i3 := i3'; clear i3'; have ci3 := i3.1; have hS4 := hS4'; clear hS4'; have hS6 := hS6'; clear hS6'; skip) | fail)
      generalize hW : World.alloc w2 _ = w3
      have hbn : Below w2.heap.size w2 w3 := by (rw [← hW]; exact below_new (Below.refl _ _) _)
      have hB' : Below w.heap.size w w3 := below_go hB hbn
      have i3' := i3.call hbn
      have hS4' := hS4.call hbn
      have hS6' := hS6.call hbn
      have i16 : Has w3 w2.heap.size 4 (fun o => .int .i64 (nx o)) := (Has.newat (n := 4) hW rfl).congr fun o ho => lit4' _ o ho
      clear hW hbn hB i3 hS4 hS6 ci3; have hB := hB'; clear hB'
      have i3 := i3'; clear i3'; have ci3 := i3.1
      have hS4 := hS4'; clear hS4'
      have hS6 := hS6'; clear hS6'
      have ci16 := i16.1
      generalize w2.heap.size = Ei16 at *
      clear w2
      go_upto_region 18 with (first | (go_at_call 36; (with_reducible refine (S2.out _).mono ?_); rintro e w2 ⟨rfl, hb2⟩; have hB' := below_go hB hb2; have i3' := i3.call hb2; have i16' := i16.call hb2; have hS4' := hS4.call hb2; have hS6' := hS6.call hb2; clear hB hb2 i3 i16 hS4 hS6 ci3 ci16; have hB := hB'; clear hB'; have i3 := i3'; clear i3'; have ci3 := i3.1; have i16 := i16'; clear i16'; have ci16 := i16.1; have hS4 := hS4'; clear hS4'; have hS6 := hS6'; clear hS6'; skip) | fail)
      generalize hW : World.alloc w2 _ = w3
      have hbn : Below w2.heap.size w2 w3 := by (rw [← hW]; exact below_new (Below.refl _ _) _)
      have hB' : Below w.heap.size w w3 := below_go hB hbn
      have i3' := i3.call hbn
      have i16' := i16.call hbn
      have hS4' := hS4.call hbn
      have hS6' := hS6.call hbn
      have i19 : Has w3 w2.heap.size 4 (fun o => .int .i64 (nx o)) := (Has.newat (n := 4) hW rfl).congr fun o ho => lit4' _ o ho
      clear hW hbn hB i3 i16 hS4 hS6 ci3 ci16; have hB := hB'; clear hB'
      have i3 := i3'; clear i3'; have ci3 := i3.1
      have i16 := i16'; clear i16'; have ci16 := i16.1
      have hS4 := hS4'; clear hS4'
      have hS6 := hS6'; clear hS6'
      have ci19 := i19.1
      generalize w2.heap.size = Ei19 at *
      clear w2
      go_upto_region 20 with (first | fail)
      go_upto_region 21 with (first | (go_at_call 37; (with_reducible refine (N1.out _).mono ?_); rintro e w2 ⟨rfl, hb2⟩; have hB' := below_go hB hb2; have i3' := i3.call hb2; have i16' := i16.call hb2; have i19' := i19.call hb2; have hS4' := hS4.call hb2; have hS6' := hS6.call hb2; clear hB hb2 i3 i16 i19 hS4 hS6 ci3 ci16 ci19; have hB := hB'; clear hB'; have i3 := i3'; clear i3'; have ci3 := i3.1; have i16 := i16'; clear i16'; have ci16 := i16.1; have i19 := i19'; clear i19'; have ci19 := i19.1; have hS4 := hS4'; clear hS4'; have hS6 := hS6'; clear hS6'; skip) | fail)
      go_upto_region 22 with (first | (go_at_call 38; (with_reducible refine (N2.out _).mono ?_); rintro e w2 ⟨rfl, hb2⟩; have hB' := below_go hB hb2; have i3' := i3.call hb2; have i16' := i16.call hb2; have i19' := i19.call hb2; have hS4' := hS4.call hb2; have hS6' := hS6.call hb2; clear hB hb2 i3 i16 i19 hS4 hS6 ci3 ci16 ci19; have hB := hB'; clear hB'; have i3 := i3'; clear i3'; have ci3 := i3.1; have i16 := i16'; clear i16'; have ci16 := i16.1; have i19 := i19'; clear i19'; have ci19 := i19.1; have hS4 := hS4'; clear hS4'; have hS6 := hS6'; clear hS6'; skip) | fail)
      go_upto_region 24 with (first | fail)
      go_upto_region 25 with (first | (go_at_call 39; (with_reducible refine (HD2.out _ hB).mono ?_); rintro e w2 ⟨z, rfl, hz, hb2⟩; have hB' := below_go hB hb2; have i3' := i3.call hb2; have i16' := i16.call hb2; have i19' := i19.call hb2; have hS4' := hS4.call hb2; have hS6' := hS6.call hb2; clear hB hb2 i3 i16 i19 hS4 hS6 ci3 ci16 ci19; have hB := hB'; clear hB'; have i3 := i3'; clear i3'; have ci3 := i3.1; have i16 := i16'; clear i16'; have ci16 := i16.1; have i19 := i19'; clear i19'; have ci19 := i19.1; have hS4 := hS4'; clear hS4'; have hS6 := hS6'; clear hS6'; skip) | fail)
      have hzz := hide hz
      clear hz
      obtain ⟨pz, hpz⟩ : ∃ pz, pz = inB z 0 104975 := ⟨_, rfl⟩
      obtain ⟨rz, hrz⟩ : ∃ rz : Nat → Int, rz = fun i => if i = 0 then zr (inB z 0 104975) (z / 5832) else if i = 1 then zr (inB z 0 104975) (z / 324 % 18) else if i = 2 then zr (inB z 0 104975) (z / 18 % 18) else zr (inB z 0 104975) (z % 18) := ⟨_, rfl⟩
      have A1 : Hid (∀ w, Calls Try.prog 40 #[.int .i64 z] w fun e w' => e = .returned (.tuple #[.agg #[.int .i64 (rz 0), .int .i64 (rz 1), .int .i64 (rz 2), .int .i64 (rz 3)], .bool pz]) ∧ Below w.heap.size w w') := hide (by rw [hrz, hpz]; exact rowAt_any z)
      have A2 : Hid (∀ w, Calls Try.prog 41 #[.int .i64 z] w fun e w' => e = .returned (.tuple #[.agg #[.int .i64 (rz 0), .int .i64 (rz 1), .int .i64 (rz 2), .int .i64 (rz 3)], .bool pz]) ∧ Below w.heap.size w w') := hide (by rw [hrz, hpz]; exact specRowAt_any z)
      clear hpz hrz
      have n3 := neq_R rz rz
      rw [ordR.refl rz] at n3
      go_upto_region 26 with (first | (go_at_call 40; (with_reducible refine (A1.out _).mono ?_); rintro e w2 ⟨rfl, hb2⟩; have hB' := below_go hB hb2; have i3' := i3.call hb2; have i16' := i16.call hb2; have i19' := i19.call hb2; have hS4' := hS4.call hb2; have hS6' := hS6.call hb2; clear hB hb2 i3 i16 i19 hS4 hS6 ci3 ci16 ci19; have hB := hB'; clear hB'; have i3 := i3'; clear i3'; have ci3 := i3.1; have i16 := i16'; clear i16'; have ci16 := i16.1; have i19 := i19'; clear i19'; have ci19 := i19.1; have hS4 := hS4'; clear hS4'; have hS6 := hS6'; clear hS6'; skip) | fail)
      generalize hW : World.alloc w2 _ = w3
      have hbn : Below w2.heap.size w2 w3 := by (rw [← hW]; exact below_new (Below.refl _ _) _)
      have hB' : Below w.heap.size w w3 := below_go hB hbn
      have i3' := i3.call hbn
      have i16' := i16.call hbn
      have i19' := i19.call hbn
      have hS4' := hS4.call hbn
      have hS6' := hS6.call hbn
      have i27 : Has w3 w2.heap.size 4 (fun o => .int .i64 (rz o)) := (Has.newat (n := 4) hW rfl).congr fun o ho => lit4' _ o ho
      clear hW hbn hB i3 i16 i19 hS4 hS6 ci3 ci16 ci19; have hB := hB'; clear hB'
      have i3 := i3'; clear i3'; have ci3 := i3.1
      have i16 := i16'; clear i16'; have ci16 := i16.1
      have i19 := i19'; clear i19'; have ci19 := i19.1
      have hS4 := hS4'; clear hS4'
      have hS6 := hS6'; clear hS6'
      have ci27 := i27.1
      generalize w2.heap.size = Ei27 at *
      clear w2
      go_upto_region 27 with (first | (go_at_call 41; (with_reducible refine (A2.out _).mono ?_); rintro e w2 ⟨rfl, hb2⟩; have hB' := below_go hB hb2; have i3' := i3.call hb2; have i16' := i16.call hb2; have i19' := i19.call hb2; have i27' := i27.call hb2; have hS4' := hS4.call hb2; have hS6' := hS6.call hb2; clear hB hb2 i3 i16 i19 i27 hS4 hS6 ci3 ci16 ci19 ci27; have hB := hB'; clear hB'; have i3 := i3'; clear i3'; have ci3 := i3.1; have i16 := i16'; clear i16'; have ci16 := i16.1; have i19 := i19'; clear i19'; have ci19 := i19.1; have i27 := i27'; clear i27'; have ci27 := i27.1; have hS4 := hS4'; clear hS4'; have hS6 := hS6'; clear hS6'; skip) | fail)
      generalize hW : World.alloc w2 _ = w3
      have hbn : Below w2.heap.size w2 w3 := by (rw [← hW]; exact below_new (Below.refl _ _) _)
      have hB' : Below w.heap.size w w3 := below_go hB hbn
      have i3' := i3.call hbn
      have i16' := i16.call hbn
      have i19' := i19.call hbn
      have i27' := i27.call hbn
      have hS4' := hS4.call hbn
      have hS6' := hS6.call hbn
      have i29 : Has w3 w2.heap.size 4 (fun o => .int .i64 (rz o)) := (Has.newat (n := 4) hW rfl).congr fun o ho => lit4' _ o ho
      clear hW hbn hB i3 i16 i19 i27 hS4 hS6 ci3 ci16 ci19 ci27; have hB := hB'; clear hB'
      have i3 := i3'; clear i3'; have ci3 := i3.1
      have i16 := i16'; clear i16'; have ci16 := i16.1
      have i19 := i19'; clear i19'; have ci19 := i19.1
      have i27 := i27'; clear i27'; have ci27 := i27.1
      have hS4 := hS4'; clear hS4'
      have hS6 := hS6'; clear hS6'
      have ci29 := i29.1
      generalize w2.heap.size = Ei29 at *
      clear w2
      go_upto_region 29 with (first | fail)
      go_upto_region 30 with (first | (go_at_call 42; (with_reducible refine (HD3.out _ hB).mono ?_); rintro e w2 ⟨m, rfl, hm, hb2⟩; have hB' := below_go hB hb2; have i3' := i3.call hb2; have i16' := i16.call hb2; have i19' := i19.call hb2; have i27' := i27.call hb2; have i29' := i29.call hb2; have hS4' := hS4.call hb2; have hS6' := hS6.call hb2; clear hB hb2 i3 i16 i19 i27 i29 hS4 hS6 ci3 ci16 ci19 ci27 ci29; have hB := hB'; clear hB'; have i3 := i3'; clear i3'; have ci3 := i3.1; have i16 := i16'; clear i16'; have ci16 := i16.1; have i19 := i19'; clear i19'; have ci19 := i19.1; have i27 := i27'; clear i27'; have ci27 := i27.1; have i29 := i29'; clear i29'; have ci29 := i29.1; have hS4 := hS4'; clear hS4'; have hS6 := hS6'; clear hS6'; skip) | fail)
      have hmm := hide hm
      clear hm
      obtain ⟨pm, hpm⟩ : ∃ pm, pm = inB m 0 6 := ⟨_, rfl⟩
      obtain ⟨cm, hcm⟩ : ∃ cm : Int, cm = (if inB m 0 6 = true then cimN m else 0) := ⟨_, rfl⟩
      have C1 : Hid (∀ w, Calls Try.prog 12 #[.int .i64 m] w fun e w' => e = .returned (.tuple #[.int .i64 cm, .bool pm]) ∧ Below w.heap.size w w') := hide (by rw [hcm, hpm]; exact countImages_any m)
      have C2 : Hid (∀ w, Calls Try.prog 11 #[.int .i64 m] w fun e w' => e = .returned (.tuple #[.int .i64 cm, .bool pm]) ∧ Below w.heap.size w w') := hide (by rw [hcm, hpm]; exact specCountImages_any m)
      clear hpm hcm
      go_upto_region 31 with (first | (go_at_call 12; (with_reducible refine (C1.out _).mono ?_); rintro e w2 ⟨rfl, hb2⟩; have hB' := below_go hB hb2; have i3' := i3.call hb2; have i16' := i16.call hb2; have i19' := i19.call hb2; have i27' := i27.call hb2; have i29' := i29.call hb2; have hS4' := hS4.call hb2; have hS6' := hS6.call hb2; clear hB hb2 i3 i16 i19 i27 i29 hS4 hS6 ci3 ci16 ci19 ci27 ci29; have hB := hB'; clear hB'; have i3 := i3'; clear i3'; have ci3 := i3.1; have i16 := i16'; clear i16'; have ci16 := i16.1; have i19 := i19'; clear i19'; have ci19 := i19.1; have i27 := i27'; clear i27'; have ci27 := i27.1; have i29 := i29'; clear i29'; have ci29 := i29.1; have hS4 := hS4'; clear hS4'; have hS6 := hS6'; clear hS6'; skip) | fail)
      go_upto_region 32 with (first | (go_at_call 11; (with_reducible refine (C2.out _).mono ?_); rintro e w2 ⟨rfl, hb2⟩; have hB' := below_go hB hb2; have i3' := i3.call hb2; have i16' := i16.call hb2; have i19' := i19.call hb2; have i27' := i27.call hb2; have i29' := i29.call hb2; have hS4' := hS4.call hb2; have hS6' := hS6.call hb2; clear hB hb2 i3 i16 i19 i27 i29 hS4 hS6 ci3 ci16 ci19 ci27 ci29; have hB := hB'; clear hB'; have i3 := i3'; clear i3'; have ci3 := i3.1; have i16 := i16'; clear i16'; have ci16 := i16.1; have i19 := i19'; clear i19'; have ci19 := i19.1; have i27 := i27'; clear i27'; have ci27 := i27.1; have i29 := i29'; clear i29'; have ci29 := i29.1; have hS4 := hS4'; clear hS4'; have hS6 := hS6'; clear hS6'; skip) | fail)
      go_upto_region 34 with (first | fail)
      clear B2 R1 I1 I2 F1 F2 S1 S2 N1 N2 A1 A2 C1 C2 HD2 HD3 HRR n1 n3 ci19 i19 ci27 i27 ci29 i29 hS6
      go_wp2_with fail
      clear hS4 HQ HNL B1
      go_loopw [36] (fun v wr => v = .int .i64 0 ∧ Below w.heap.size w wr ∧ Has wr Ei3 4 (fun o => .int .i64 (r o)) ∧ Has wr Ei16 4 (fun o => .int .i64 (nx o))) (fun _ _ => 1)
      case atStart => exact ⟨rfl, hB, i3, i16⟩
      case round =>
        clear hB i3 ci3 i16 ci16
        obtain ⟨rfl, hB, i3, i16⟩ := hrel
        have ci3 := i3.1
        have ci16 := i16.1
        go_wp2
        go_ret
        exact ⟨rfl, hB⟩
    · -- case 1
      subst h0
      go_upto_region 5 with (first | (go_at_call 14; (with_reducible refine (B1.out _).mono ?_); rintro e w2 ⟨A4, c4x, rfl, hS4, hb2⟩; have hB' := below_go hB hb2; have i3' := i3.call hb2; clear hB hb2 i3 ci3; have hB := hB'; clear hB'; have i3 := i3'; clear i3'; have ci3 := i3.1; skip) | fail)
      go_upto_region 6 with (first | (go_at_call 13; (with_reducible refine (B2.out _).mono ?_); rintro e w2 ⟨A6, c6x, rfl, hS6, hb2⟩; have hB' := below_go hB hb2; have i3' := i3.call hb2; have hS4' := hS4.call hb2; clear hB hb2 i3 hS4 ci3; have hB := hB'; clear hB'; have i3 := i3'; clear i3'; have ci3 := i3.1; have hS4 := hS4'; clear hS4'; skip) | fail)
      have HRR := hide (fun wz Ba Bb (h1 : Sl wz Ba A4 (0 * 4) (rsC li)) (h2 : Sl wz Bb A6 (0 * 4) (rsC li)) => by have h := rRows_same wz A4 A6 Ba Bb c4x c6x li (by rw [← HNL.out]; omega) (by rw [← HNL.out]; exact h1) (by rw [← HNL.out]; exact h2); rw [← HNL.out] at h; exact h)
      go_upto_region 8 with (first | (go_at_call 32; (with_reducible refine (R1.out _).mono ?_); rintro e w2 ⟨rfl, hb2⟩; have hB' := below_go hB hb2; have i3' := i3.call hb2; have hS4' := hS4.call hb2; have hS6' := hS6.call hb2; clear hB hb2 i3 hS4 hS6 ci3; have hB := hB'; clear hB'; have i3 := i3'; clear i3'; have ci3 := i3.1; have hS4 := hS4'; clear hS4'; have hS6 := hS6'; clear hS6'; skip) | (go_at_call 33; (with_reducible refine (HRR.out _ _ _ hS4 hS6).mono ?_); rintro e w2 ⟨rfl, hb2⟩; have hB' := below_go hB hb2; have i3' := i3.call hb2; have hS4' := hS4.call hb2; have hS6' := hS6.call hb2; clear hB hb2 i3 hS4 hS6 ci3; have hB := hB'; clear hB'; have i3 := i3'; clear i3'; have ci3 := i3.1; have hS4 := hS4'; clear hS4'; have hS6 := hS6'; clear hS6'; skip) | fail)
      go_upto_region 9 with (first | (go_at_call 10; (with_reducible refine (I1.out _).mono ?_); rintro e w2 ⟨rfl, hb2⟩; have hB' := below_go hB hb2; have i3' := i3.call hb2; have hS4' := hS4.call hb2; have hS6' := hS6.call hb2; clear hB hb2 i3 hS4 hS6 ci3; have hB := hB'; clear hB'; have i3 := i3'; clear i3'; have ci3 := i3.1; have hS4 := hS4'; clear hS4'; have hS6 := hS6'; clear hS6'; skip) | fail)
      go_upto_region 10 with (first | (go_at_call 8; (with_reducible refine (I2.out _).mono ?_); rintro e w2 ⟨rfl, hb2⟩; have hB' := below_go hB hb2; have i3' := i3.call hb2; have hS4' := hS4.call hb2; have hS6' := hS6.call hb2; clear hB hb2 i3 hS4 hS6 ci3; have hB := hB'; clear hB'; have i3 := i3'; clear i3'; have ci3 := i3.1; have hS4 := hS4'; clear hS4'; have hS6 := hS6'; clear hS6'; skip) | fail)
      go_upto_region 12 with (first | fail)
      go_upto_region 13 with (first | (go_at_call 34; (with_reducible refine (F1.out _).mono ?_); rintro e w2 ⟨rfl, hb2⟩; have hB' := below_go hB hb2; have i3' := i3.call hb2; have hS4' := hS4.call hb2; have hS6' := hS6.call hb2; clear hB hb2 i3 hS4 hS6 ci3; have hB := hB'; clear hB'; have i3 := i3'; clear i3'; have ci3 := i3.1; have hS4 := hS4'; clear hS4'; have hS6 := hS6'; clear hS6'; skip) | fail)
      go_upto_region 14 with (first | (go_at_call 35; (with_reducible refine (F2.out _).mono ?_); rintro e w2 ⟨rfl, hb2⟩; have hB' := below_go hB hb2; have i3' := i3.call hb2; have hS4' := hS4.call hb2; have hS6' := hS6.call hb2; clear hB hb2 i3 hS4 hS6 ci3; have hB := hB'; clear hB'; have i3 := i3'; clear i3'; have ci3 := i3.1; have hS4 := hS4'; clear hS4'; have hS6 := hS6'; clear hS6'; skip) | fail)
      go_upto_region 16 with (first | fail)
      go_upto_region 17 with (first | (go_at_call 30; (with_reducible refine (S1.out _).mono ?_); rintro e w2 ⟨rfl, hb2⟩; have hB' := below_go hB hb2; have i3' := i3.call hb2; have hS4' := hS4.call hb2; have hS6' := hS6.call hb2; clear hB hb2 i3 hS4 hS6 ci3; have hB := hB'; clear hB'; have i3 := i3'; clear i3'; have ci3 := i3.1; have hS4 := hS4'; clear hS4'; have hS6 := hS6'; clear hS6'; skip) | fail)
      generalize hW : World.alloc w2 _ = w3
      have hbn : Below w2.heap.size w2 w3 := by (rw [← hW]; exact below_new (Below.refl _ _) _)
      have hB' : Below w.heap.size w w3 := below_go hB hbn
      have i3' := i3.call hbn
      have hS4' := hS4.call hbn
      have hS6' := hS6.call hbn
      have i16 : Has w3 w2.heap.size 4 (fun o => .int .i64 (nx o)) := (Has.newat (n := 4) hW rfl).congr fun o ho => lit4' _ o ho
      clear hW hbn hB i3 hS4 hS6 ci3; have hB := hB'; clear hB'
      have i3 := i3'; clear i3'; have ci3 := i3.1
      have hS4 := hS4'; clear hS4'
      have hS6 := hS6'; clear hS6'
      have ci16 := i16.1
      generalize w2.heap.size = Ei16 at *
      clear w2
      go_upto_region 18 with (first | (go_at_call 36; (with_reducible refine (S2.out _).mono ?_); rintro e w2 ⟨rfl, hb2⟩; have hB' := below_go hB hb2; have i3' := i3.call hb2; have i16' := i16.call hb2; have hS4' := hS4.call hb2; have hS6' := hS6.call hb2; clear hB hb2 i3 i16 hS4 hS6 ci3 ci16; have hB := hB'; clear hB'; have i3 := i3'; clear i3'; have ci3 := i3.1; have i16 := i16'; clear i16'; have ci16 := i16.1; have hS4 := hS4'; clear hS4'; have hS6 := hS6'; clear hS6'; skip) | fail)
      generalize hW : World.alloc w2 _ = w3
      have hbn : Below w2.heap.size w2 w3 := by (rw [← hW]; exact below_new (Below.refl _ _) _)
      have hB' : Below w.heap.size w w3 := below_go hB hbn
      have i3' := i3.call hbn
      have i16' := i16.call hbn
      have hS4' := hS4.call hbn
      have hS6' := hS6.call hbn
      have i19 : Has w3 w2.heap.size 4 (fun o => .int .i64 (nx o)) := (Has.newat (n := 4) hW rfl).congr fun o ho => lit4' _ o ho
      clear hW hbn hB i3 i16 hS4 hS6 ci3 ci16; have hB := hB'; clear hB'
      have i3 := i3'; clear i3'; have ci3 := i3.1
      have i16 := i16'; clear i16'; have ci16 := i16.1
      have hS4 := hS4'; clear hS4'
      have hS6 := hS6'; clear hS6'
      have ci19 := i19.1
      generalize w2.heap.size = Ei19 at *
      clear w2
      go_upto_region 20 with (first | fail)
      go_upto_region 21 with (first | (go_at_call 37; (with_reducible refine (N1.out _).mono ?_); rintro e w2 ⟨rfl, hb2⟩; have hB' := below_go hB hb2; have i3' := i3.call hb2; have i16' := i16.call hb2; have i19' := i19.call hb2; have hS4' := hS4.call hb2; have hS6' := hS6.call hb2; clear hB hb2 i3 i16 i19 hS4 hS6 ci3 ci16 ci19; have hB := hB'; clear hB'; have i3 := i3'; clear i3'; have ci3 := i3.1; have i16 := i16'; clear i16'; have ci16 := i16.1; have i19 := i19'; clear i19'; have ci19 := i19.1; have hS4 := hS4'; clear hS4'; have hS6 := hS6'; clear hS6'; skip) | fail)
      go_upto_region 22 with (first | (go_at_call 38; (with_reducible refine (N2.out _).mono ?_); rintro e w2 ⟨rfl, hb2⟩; have hB' := below_go hB hb2; have i3' := i3.call hb2; have i16' := i16.call hb2; have i19' := i19.call hb2; have hS4' := hS4.call hb2; have hS6' := hS6.call hb2; clear hB hb2 i3 i16 i19 hS4 hS6 ci3 ci16 ci19; have hB := hB'; clear hB'; have i3 := i3'; clear i3'; have ci3 := i3.1; have i16 := i16'; clear i16'; have ci16 := i16.1; have i19 := i19'; clear i19'; have ci19 := i19.1; have hS4 := hS4'; clear hS4'; have hS6 := hS6'; clear hS6'; skip) | fail)
      go_upto_region 24 with (first | fail)
      go_upto_region 25 with (first | (go_at_call 39; (with_reducible refine (HD2.out _ hB).mono ?_); rintro e w2 ⟨z, rfl, hz, hb2⟩; have hB' := below_go hB hb2; have i3' := i3.call hb2; have i16' := i16.call hb2; have i19' := i19.call hb2; have hS4' := hS4.call hb2; have hS6' := hS6.call hb2; clear hB hb2 i3 i16 i19 hS4 hS6 ci3 ci16 ci19; have hB := hB'; clear hB'; have i3 := i3'; clear i3'; have ci3 := i3.1; have i16 := i16'; clear i16'; have ci16 := i16.1; have i19 := i19'; clear i19'; have ci19 := i19.1; have hS4 := hS4'; clear hS4'; have hS6 := hS6'; clear hS6'; skip) | fail)
      have hzz := hide hz
      clear hz
      obtain ⟨pz, hpz⟩ : ∃ pz, pz = inB z 0 104975 := ⟨_, rfl⟩
      obtain ⟨rz, hrz⟩ : ∃ rz : Nat → Int, rz = fun i => if i = 0 then zr (inB z 0 104975) (z / 5832) else if i = 1 then zr (inB z 0 104975) (z / 324 % 18) else if i = 2 then zr (inB z 0 104975) (z / 18 % 18) else zr (inB z 0 104975) (z % 18) := ⟨_, rfl⟩
      have A1 : Hid (∀ w, Calls Try.prog 40 #[.int .i64 z] w fun e w' => e = .returned (.tuple #[.agg #[.int .i64 (rz 0), .int .i64 (rz 1), .int .i64 (rz 2), .int .i64 (rz 3)], .bool pz]) ∧ Below w.heap.size w w') := hide (by rw [hrz, hpz]; exact rowAt_any z)
      have A2 : Hid (∀ w, Calls Try.prog 41 #[.int .i64 z] w fun e w' => e = .returned (.tuple #[.agg #[.int .i64 (rz 0), .int .i64 (rz 1), .int .i64 (rz 2), .int .i64 (rz 3)], .bool pz]) ∧ Below w.heap.size w w') := hide (by rw [hrz, hpz]; exact specRowAt_any z)
      clear hpz hrz
      have n3 := neq_R rz rz
      rw [ordR.refl rz] at n3
      go_upto_region 26 with (first | (go_at_call 40; (with_reducible refine (A1.out _).mono ?_); rintro e w2 ⟨rfl, hb2⟩; have hB' := below_go hB hb2; have i3' := i3.call hb2; have i16' := i16.call hb2; have i19' := i19.call hb2; have hS4' := hS4.call hb2; have hS6' := hS6.call hb2; clear hB hb2 i3 i16 i19 hS4 hS6 ci3 ci16 ci19; have hB := hB'; clear hB'; have i3 := i3'; clear i3'; have ci3 := i3.1; have i16 := i16'; clear i16'; have ci16 := i16.1; have i19 := i19'; clear i19'; have ci19 := i19.1; have hS4 := hS4'; clear hS4'; have hS6 := hS6'; clear hS6'; skip) | fail)
      generalize hW : World.alloc w2 _ = w3
      have hbn : Below w2.heap.size w2 w3 := by (rw [← hW]; exact below_new (Below.refl _ _) _)
      have hB' : Below w.heap.size w w3 := below_go hB hbn
      have i3' := i3.call hbn
      have i16' := i16.call hbn
      have i19' := i19.call hbn
      have hS4' := hS4.call hbn
      have hS6' := hS6.call hbn
      have i27 : Has w3 w2.heap.size 4 (fun o => .int .i64 (rz o)) := (Has.newat (n := 4) hW rfl).congr fun o ho => lit4' _ o ho
      clear hW hbn hB i3 i16 i19 hS4 hS6 ci3 ci16 ci19; have hB := hB'; clear hB'
      have i3 := i3'; clear i3'; have ci3 := i3.1
      have i16 := i16'; clear i16'; have ci16 := i16.1
      have i19 := i19'; clear i19'; have ci19 := i19.1
      have hS4 := hS4'; clear hS4'
      have hS6 := hS6'; clear hS6'
      have ci27 := i27.1
      generalize w2.heap.size = Ei27 at *
      clear w2
      go_upto_region 27 with (first | (go_at_call 41; (with_reducible refine (A2.out _).mono ?_); rintro e w2 ⟨rfl, hb2⟩; have hB' := below_go hB hb2; have i3' := i3.call hb2; have i16' := i16.call hb2; have i19' := i19.call hb2; have i27' := i27.call hb2; have hS4' := hS4.call hb2; have hS6' := hS6.call hb2; clear hB hb2 i3 i16 i19 i27 hS4 hS6 ci3 ci16 ci19 ci27; have hB := hB'; clear hB'; have i3 := i3'; clear i3'; have ci3 := i3.1; have i16 := i16'; clear i16'; have ci16 := i16.1; have i19 := i19'; clear i19'; have ci19 := i19.1; have i27 := i27'; clear i27'; have ci27 := i27.1; have hS4 := hS4'; clear hS4'; have hS6 := hS6'; clear hS6'; skip) | fail)
      generalize hW : World.alloc w2 _ = w3
      have hbn : Below w2.heap.size w2 w3 := by (rw [← hW]; exact below_new (Below.refl _ _) _)
      have hB' : Below w.heap.size w w3 := below_go hB hbn
      have i3' := i3.call hbn
      have i16' := i16.call hbn
      have i19' := i19.call hbn
      have i27' := i27.call hbn
      have hS4' := hS4.call hbn
      have hS6' := hS6.call hbn
      have i29 : Has w3 w2.heap.size 4 (fun o => .int .i64 (rz o)) := (Has.newat (n := 4) hW rfl).congr fun o ho => lit4' _ o ho
      clear hW hbn hB i3 i16 i19 i27 hS4 hS6 ci3 ci16 ci19 ci27; have hB := hB'; clear hB'
      have i3 := i3'; clear i3'; have ci3 := i3.1
      have i16 := i16'; clear i16'; have ci16 := i16.1
      have i19 := i19'; clear i19'; have ci19 := i19.1
      have i27 := i27'; clear i27'; have ci27 := i27.1
      have hS4 := hS4'; clear hS4'
      have hS6 := hS6'; clear hS6'
      have ci29 := i29.1
      generalize w2.heap.size = Ei29 at *
      clear w2
      go_upto_region 29 with (first | fail)
      go_upto_region 30 with (first | (go_at_call 42; (with_reducible refine (HD3.out _ hB).mono ?_); rintro e w2 ⟨m, rfl, hm, hb2⟩; have hB' := below_go hB hb2; have i3' := i3.call hb2; have i16' := i16.call hb2; have i19' := i19.call hb2; have i27' := i27.call hb2; have i29' := i29.call hb2; have hS4' := hS4.call hb2; have hS6' := hS6.call hb2; clear hB hb2 i3 i16 i19 i27 i29 hS4 hS6 ci3 ci16 ci19 ci27 ci29; have hB := hB'; clear hB'; have i3 := i3'; clear i3'; have ci3 := i3.1; have i16 := i16'; clear i16'; have ci16 := i16.1; have i19 := i19'; clear i19'; have ci19 := i19.1; have i27 := i27'; clear i27'; have ci27 := i27.1; have i29 := i29'; clear i29'; have ci29 := i29.1; have hS4 := hS4'; clear hS4'; have hS6 := hS6'; clear hS6'; skip) | fail)
      have hmm := hide hm
      clear hm
      obtain ⟨pm, hpm⟩ : ∃ pm, pm = inB m 0 6 := ⟨_, rfl⟩
      obtain ⟨cm, hcm⟩ : ∃ cm : Int, cm = (if inB m 0 6 = true then cimN m else 0) := ⟨_, rfl⟩
      have C1 : Hid (∀ w, Calls Try.prog 12 #[.int .i64 m] w fun e w' => e = .returned (.tuple #[.int .i64 cm, .bool pm]) ∧ Below w.heap.size w w') := hide (by rw [hcm, hpm]; exact countImages_any m)
      have C2 : Hid (∀ w, Calls Try.prog 11 #[.int .i64 m] w fun e w' => e = .returned (.tuple #[.int .i64 cm, .bool pm]) ∧ Below w.heap.size w w') := hide (by rw [hcm, hpm]; exact specCountImages_any m)
      clear hpm hcm
      go_upto_region 31 with (first | (go_at_call 12; (with_reducible refine (C1.out _).mono ?_); rintro e w2 ⟨rfl, hb2⟩; have hB' := below_go hB hb2; have i3' := i3.call hb2; have i16' := i16.call hb2; have i19' := i19.call hb2; have i27' := i27.call hb2; have i29' := i29.call hb2; have hS4' := hS4.call hb2; have hS6' := hS6.call hb2; clear hB hb2 i3 i16 i19 i27 i29 hS4 hS6 ci3 ci16 ci19 ci27 ci29; have hB := hB'; clear hB'; have i3 := i3'; clear i3'; have ci3 := i3.1; have i16 := i16'; clear i16'; have ci16 := i16.1; have i19 := i19'; clear i19'; have ci19 := i19.1; have i27 := i27'; clear i27'; have ci27 := i27.1; have i29 := i29'; clear i29'; have ci29 := i29.1; have hS4 := hS4'; clear hS4'; have hS6 := hS6'; clear hS6'; skip) | fail)
      go_upto_region 32 with (first | (go_at_call 11; (with_reducible refine (C2.out _).mono ?_); rintro e w2 ⟨rfl, hb2⟩; have hB' := below_go hB hb2; have i3' := i3.call hb2; have i16' := i16.call hb2; have i19' := i19.call hb2; have i27' := i27.call hb2; have i29' := i29.call hb2; have hS4' := hS4.call hb2; have hS6' := hS6.call hb2; clear hB hb2 i3 i16 i19 i27 i29 hS4 hS6 ci3 ci16 ci19 ci27 ci29; have hB := hB'; clear hB'; have i3 := i3'; clear i3'; have ci3 := i3.1; have i16 := i16'; clear i16'; have ci16 := i16.1; have i19 := i19'; clear i19'; have ci19 := i19.1; have i27 := i27'; clear i27'; have ci27 := i27.1; have i29 := i29'; clear i29'; have ci29 := i29.1; have hS4 := hS4'; clear hS4'; have hS6 := hS6'; clear hS6'; skip) | fail)
      go_upto_region 34 with (first | fail)
      clear B2 R1 I1 I2 F1 F2 S1 S2 N1 N2 A1 A2 C1 C2 HD2 HD3 HRR n1 n3 ci19 i19 ci27 i27 ci29 i29 hS6
      go_wp2_with fail
      clear hS4 HQ HNL B1
      go_loopw [36] (fun v wr => v = .int .i64 0 ∧ Below w.heap.size w wr ∧ Has wr Ei3 4 (fun o => .int .i64 (r o)) ∧ Has wr Ei16 4 (fun o => .int .i64 (nx o))) (fun _ _ => 1)
      case atStart => exact ⟨rfl, hB, i3, i16⟩
      case round =>
        clear hB i3 ci3 i16 ci16
        obtain ⟨rfl, hB, i3, i16⟩ := hrel
        have ci3 := i3.1
        have ci16 := i16.1
        go_upto_region 42 with fail
        obtain ⟨hnx, hrr, hnu⟩ := HP.out (by first | exact rfl | trivial)
        obtain ⟨na, nb, nc, nd, ne⟩ := num_at (hrr 0 (by omega)) (hrr 1 (by omega)) (hrr 2 (by omega)) (hrr 3 (by omega)) nu (by omega)
        have A3 : Hid (∀ w, Calls Try.prog 40 #[.int .i64 nu] w fun e w' => e = .returned (.tuple #[.agg #[.int .i64 (r 0), .int .i64 (r 1), .int .i64 (r 2), .int .i64 (r 3)], .bool true]) ∧ Below w.heap.size w w') := hide (by
          have h := rowAt_any nu
          rw [na, nb, nc, nd, ne] at h
          exact h)
        have hnxr : ∀ i, i < 4 → 0 ≤ nx i ∧ nx i ≤ 17 := by rw [hnx]; exact slid_in' hrr
        obtain ⟨l2, hl2⟩ : ∃ l2, l2 = rbO nx := ⟨_, rfl⟩
        obtain ⟨n2L, hn2⟩ : ∃ n2L, n2L = l2.length := ⟨_, rfl⟩
        have hn248 : n2L ≤ 48 := by rw [hn2, hl2]; exact rbO_le
        have B3 : Hid (∀ w, Calls Try.prog 14 #[.agg #[.int .i64 (nx 0), .int .i64 (nx 1), .int .i64 (nx 2), .int .i64 (nx 3)]] w fun e w' => ∃ A c, e = .returned (.tuple #[.slice A n2L c, .bool true]) ∧ Sl w' w.heap.size A (n2L * 4) (rsC l2) ∧ Below w.heap.size w w') := hide (by
          have h := rowsBeforeX_own nx
          rw [rowB_of hnxr] at h
          rw [hn2, hl2]; exact h)
        obtain ⟨J, hJ1, hJ2, hJ3⟩ := first_eq (l := l2) (r := r) (by rw [hl2, rbO_true (rowB_of hnxr), hnx]; exact rbP_back hrr)
        rw [← hn2] at hJ1
        have HJ2 := hide hJ2
        have HJ3 := hide hJ3
        have nr := neq_R r r
        rw [ordR.refl r] at nr
        clear hnx hrr hnu na nb nc nd ne hnxr hl2 hn2 hJ2 hJ3 HP HLI
        go_upto_region 43 with (first | (go_at_call 40; (with_reducible refine (A3.out _).mono ?_); rintro e w2 ⟨rfl, hb2⟩; have hB' := below_go hB hb2; have i3' := i3.call hb2; have i16' := i16.call hb2; clear hB hb2 i3 i16 ci3 ci16; have hB := hB'; clear hB'; have i3 := i3'; clear i3'; have ci3 := i3.1; have i16 := i16'; clear i16'; have ci16 := i16.1; skip) | fail)
        generalize hW : World.alloc w2 _ = w3
        have hbn : Below w2.heap.size w2 w3 := by (rw [← hW]; exact below_new (Below.refl _ _) _)
        have hB' : Below w.heap.size w w3 := below_go hB hbn
        have i3' := i3.call hbn
        have i16' := i16.call hbn
        have i40 : Has w3 w2.heap.size 4 (fun o => .int .i64 (r o)) := (Has.newat (n := 4) hW rfl).congr fun o ho => lit4' _ o ho
        clear hW hbn hB i3 i16 ci3 ci16; have hB := hB'; clear hB'
        have i3 := i3'; clear i3'; have ci3 := i3.1
        have i16 := i16'; clear i16'; have ci16 := i16.1
        have ci40 := i40.1
        generalize w2.heap.size = Ei40 at *
        clear w2
        go_upto_region 44 with (first | (go_at_call 14; (with_reducible refine (B3.out _).mono ?_); rintro e w2 ⟨A42, c42, rfl, hS42, hb2⟩; have hB' := below_go hB hb2; have i3' := i3.call hb2; have i16' := i16.call hb2; have i40' := i40.call hb2; clear hB hb2 i3 i16 i40 ci3 ci16 ci40; have hB := hB'; clear hB'; have i3 := i3'; clear i3'; have ci3 := i3.1; have i16 := i16'; clear i16'; have ci16 := i16.1; have i40 := i40'; clear i40'; have ci40 := i40.1; skip) | fail)
        obtain ⟨g42, rfl, _, h42⟩ := hS42 (by omega)
        clear hS42
        go_upto_region 46 with (first | fail)
        go_wp2_with fail
        go_loopw [44] (fun v wr => ∃ i : Nat, i ≤ J ∧ v = .int .i64 i ∧ Below w.heap.size w wr ∧ Has wr Ei3 4 (fun o => .int .i64 (r o)) ∧ Has wr g42 (n2L * 4) (rsC l2)) (fun i _ => J - (intOf i).toNat)
        case atStart => exact ⟨0, by omega, rfl, hB, i3, h42⟩
        case round =>
          clear hB i3 ci3 h42 i16 ci16 i40 ci40
          obtain ⟨i, hi, rfl, hB, i3, h42⟩ := hrel
          have zi3 := i3.2.2
          have zh42 := h42.2.2
          have b0 : (0 : Int) ≤ i := by omega
          have b1 : (i : Int) < n2L := by omega
          have hE := eql_R (atR l2 i) r
          by_cases hij : i = J
          · subst hij
            rw [HJ2.out] at hE
            go_wp2_with fail
            refine wp_region_noPanic ?_
            refine wp_region_held_drew (S := (fun w' => RR Ei3 r w' ∧ RRo g42 i (atR l2 i) w')) (by kernel_rfl) ?hS01 (fun hHeld => ?_)
            case hS01 => exact ⟨rr_of i3, rro_of h42 (by omega)⟩
            have hB' : Below w.heap.size w (World.drew _) := Below.drew hB
            have h42' := Has.drew h42
            have i3' := Has.drew i3
            (try clear ch42); (try clear fh42)
            (try clear ci3); (try clear fi3)
            generalize hWW : World.drew _ = wx at *; clear hWW
            clear hB; have hB := hB'; clear hB'; clear h42 zh42; have h42 := h42'; clear h42'; have zh42 := h42.2.2; clear i3 zi3; have i3 := i3'; clear i3'; have zi3 := i3.2.2
            refine take_d (i := 0) (some 283) (v := ?_) rfl rfl (by kernel_rfl) (by kernel_rfl) (by kernel_rfl) (fun _ _ _ h => h) (Or.inl ⟨by rfl, ?_⟩) (by assumption) ?_
            rotate_left; (intro w hSw; clear hSw; go_simp; try with_reducible rfl)
            all_goals (try simp only [Act.put, List.setIfInBounds_toArray, List.set_cons_zero, List.set_cons_succ])
            refine take_d (i := 1) (some 284) (v := ?_) rfl rfl (by kernel_rfl) (by kernel_rfl) (by kernel_rfl) (fun _ _ _ h => h) (Or.inl ⟨by rfl, ?_⟩) (by assumption) ?_
            rotate_left; (intro w hSw; clear hSw; go_simp; try with_reducible rfl)
            all_goals (try simp only [Act.put, List.setIfInBounds_toArray, List.set_cons_zero, List.set_cons_succ])
            refine take_d (i := 2) (some 285) (v := ?_) rfl rfl (by kernel_rfl) (by kernel_rfl) (by kernel_rfl) (fun _ _ _ h => h) (Or.inl ⟨by rfl, ?_⟩) (by assumption) ?_
            rotate_left; (intro w hSw; clear hSw; go_simp; try with_reducible rfl)
            all_goals (try simp only [Act.put, List.setIfInBounds_toArray, List.set_cons_zero, List.set_cons_succ])
            refine take_d (i := 3) (some 286) (oi := _) (v := _) rfl rfl (by kernel_rfl) (by kernel_rfl) (by kernel_rfl) (fun _ _ _ h => h) (yieldsIf_load_mid (by rfl) _ _ rfl _ _ rfl _ _ (fun w h => h.2.r) Try.underlying22 rfl (by kernel_rfl)) (by assumption) ?_
            all_goals (try simp only [Act.put, List.setIfInBounds_toArray, List.set_cons_zero, List.set_cons_succ])
            refine take_d (i := 4) (some 287) (oi := _) (v := _) rfl rfl (by kernel_rfl) (by kernel_rfl) (by kernel_rfl) (fun _ _ _ h => h) (yieldsIf_load_mid (by rfl) _ _ rfl _ _ rfl _ _ (fun w h => h.1.r) Try.underlying22 rfl (by kernel_rfl)) (by assumption) ?_
            all_goals (try simp only [Act.put, List.setIfInBounds_toArray, List.set_cons_zero, List.set_cons_succ])
            refine take_d (i := 5) (some 288) (v := ?_) rfl rfl (by kernel_rfl) (by kernel_rfl) (by kernel_rfl) (fun _ _ _ h => h) (Or.inl ⟨by rfl, ?_⟩) (by assumption) ?_
            rotate_left; (intro w hSw; clear hSw; go_simp; try with_reducible rfl)
            all_goals (try simp only [Act.put, List.setIfInBounds_toArray, List.set_cons_zero, List.set_cons_succ])
            refine wpAnyH_done (by kernel_rfl) ?_ _
            (try refine NoPanic.normal ?_)
            go_wp2
            go_ret
            exact ⟨rfl, hB⟩
          · rw [HJ3.out i (by omega)] at hE
            go_wp2_with fail
            refine wp_region_noPanic ?_
            refine wp_region_held_drew (S := (fun w' => RR Ei3 r w' ∧ RRo g42 i (atR l2 i) w')) (by kernel_rfl) ?hS02 (fun hHeld => ?_)
            case hS02 => exact ⟨rr_of i3, rro_of h42 (by omega)⟩
            have hB' : Below w.heap.size w (World.drew _) := Below.drew hB
            have h42' := Has.drew h42
            have i3' := Has.drew i3
            (try clear ch42); (try clear fh42)
            (try clear ci3); (try clear fi3)
            generalize hWW : World.drew _ = wx at *; clear hWW
            clear hB; have hB := hB'; clear hB'; clear h42 zh42; have h42 := h42'; clear h42'; have zh42 := h42.2.2; clear i3 zi3; have i3 := i3'; clear i3'; have zi3 := i3.2.2
            refine take_d (i := 0) (some 283) (v := ?_) rfl rfl (by kernel_rfl) (by kernel_rfl) (by kernel_rfl) (fun _ _ _ h => h) (Or.inl ⟨by rfl, ?_⟩) (by assumption) ?_
            rotate_left; (intro w hSw; clear hSw; go_simp; try with_reducible rfl)
            all_goals (try simp only [Act.put, List.setIfInBounds_toArray, List.set_cons_zero, List.set_cons_succ])
            refine take_d (i := 1) (some 284) (v := ?_) rfl rfl (by kernel_rfl) (by kernel_rfl) (by kernel_rfl) (fun _ _ _ h => h) (Or.inl ⟨by rfl, ?_⟩) (by assumption) ?_
            rotate_left; (intro w hSw; clear hSw; go_simp; try with_reducible rfl)
            all_goals (try simp only [Act.put, List.setIfInBounds_toArray, List.set_cons_zero, List.set_cons_succ])
            refine take_d (i := 2) (some 285) (v := ?_) rfl rfl (by kernel_rfl) (by kernel_rfl) (by kernel_rfl) (fun _ _ _ h => h) (Or.inl ⟨by rfl, ?_⟩) (by assumption) ?_
            rotate_left; (intro w hSw; clear hSw; go_simp; try with_reducible rfl)
            all_goals (try simp only [Act.put, List.setIfInBounds_toArray, List.set_cons_zero, List.set_cons_succ])
            refine take_d (i := 3) (some 286) (oi := _) (v := _) rfl rfl (by kernel_rfl) (by kernel_rfl) (by kernel_rfl) (fun _ _ _ h => h) (yieldsIf_load_mid (by rfl) _ _ rfl _ _ rfl _ _ (fun w h => h.2.r) Try.underlying22 rfl (by kernel_rfl)) (by assumption) ?_
            all_goals (try simp only [Act.put, List.setIfInBounds_toArray, List.set_cons_zero, List.set_cons_succ])
            refine take_d (i := 4) (some 287) (oi := _) (v := _) rfl rfl (by kernel_rfl) (by kernel_rfl) (by kernel_rfl) (fun _ _ _ h => h) (yieldsIf_load_mid (by rfl) _ _ rfl _ _ rfl _ _ (fun w h => h.1.r) Try.underlying22 rfl (by kernel_rfl)) (by assumption) ?_
            all_goals (try simp only [Act.put, List.setIfInBounds_toArray, List.set_cons_zero, List.set_cons_succ])
            refine take_d (i := 5) (some 288) (v := ?_) rfl rfl (by kernel_rfl) (by kernel_rfl) (by kernel_rfl) (fun _ _ _ h => h) (Or.inl ⟨by rfl, ?_⟩) (by assumption) ?_
            rotate_left; (intro w hSw; clear hSw; go_simp; try with_reducible rfl)
            all_goals (try simp only [Act.put, List.setIfInBounds_toArray, List.set_cons_zero, List.set_cons_succ])
            refine wpAnyH_done (by kernel_rfl) ?_ _
            (try refine NoPanic.normal ?_)
            go_wp2
            go_roundw
            case rel => exact ⟨i + 1, by omega, by go_num, hB, i3, h42⟩
            case measure => (simp [intOf]; omega)
    · -- case 2
      have h0i : (0 : Int) < nL := by omega
      have h48 : ¬ (60 : Int) < nL := by omega
      go_upto_region 5 with (first | (go_at_call 14; (with_reducible refine (B1.out _).mono ?_); rintro e w2 ⟨A4, c4x, rfl, hS4, hb2⟩; have hB' := below_go hB hb2; have i3' := i3.call hb2; clear hB hb2 i3 ci3; have hB := hB'; clear hB'; have i3 := i3'; clear i3'; have ci3 := i3.1; skip) | fail)
      go_upto_region 6 with (first | (go_at_call 13; (with_reducible refine (B2.out _).mono ?_); rintro e w2 ⟨A6, c6x, rfl, hS6, hb2⟩; have hB' := below_go hB hb2; have i3' := i3.call hb2; have hS4' := hS4.call hb2; clear hB hb2 i3 hS4 ci3; have hB := hB'; clear hB'; have i3 := i3'; clear i3'; have ci3 := i3.1; have hS4 := hS4'; clear hS4'; skip) | fail)
      have HRR := hide (fun wz Ba Bb (h1 : Sl wz Ba A4 (nL * 4) (rsC li)) (h2 : Sl wz Bb A6 (nL * 4) (rsC li)) => by have h := rRows_same wz A4 A6 Ba Bb c4x c6x li (by rw [← HNL.out]; omega) (by rw [← HNL.out]; exact h1) (by rw [← HNL.out]; exact h2); rw [← HNL.out] at h; exact h)
      go_upto_region 8 with (first | (go_at_call 32; (with_reducible refine (R1.out _).mono ?_); rintro e w2 ⟨rfl, hb2⟩; have hB' := below_go hB hb2; have i3' := i3.call hb2; have hS4' := hS4.call hb2; have hS6' := hS6.call hb2; clear hB hb2 i3 hS4 hS6 ci3; have hB := hB'; clear hB'; have i3 := i3'; clear i3'; have ci3 := i3.1; have hS4 := hS4'; clear hS4'; have hS6 := hS6'; clear hS6'; skip) | (go_at_call 33; (with_reducible refine (HRR.out _ _ _ hS4 hS6).mono ?_); rintro e w2 ⟨rfl, hb2⟩; have hB' := below_go hB hb2; have i3' := i3.call hb2; have hS4' := hS4.call hb2; have hS6' := hS6.call hb2; clear hB hb2 i3 hS4 hS6 ci3; have hB := hB'; clear hB'; have i3 := i3'; clear i3'; have ci3 := i3.1; have hS4 := hS4'; clear hS4'; have hS6 := hS6'; clear hS6'; skip) | fail)
      go_upto_region 9 with (first | (go_at_call 10; (with_reducible refine (I1.out _).mono ?_); rintro e w2 ⟨rfl, hb2⟩; have hB' := below_go hB hb2; have i3' := i3.call hb2; have hS4' := hS4.call hb2; have hS6' := hS6.call hb2; clear hB hb2 i3 hS4 hS6 ci3; have hB := hB'; clear hB'; have i3 := i3'; clear i3'; have ci3 := i3.1; have hS4 := hS4'; clear hS4'; have hS6 := hS6'; clear hS6'; skip) | fail)
      go_upto_region 10 with (first | (go_at_call 8; (with_reducible refine (I2.out _).mono ?_); rintro e w2 ⟨rfl, hb2⟩; have hB' := below_go hB hb2; have i3' := i3.call hb2; have hS4' := hS4.call hb2; have hS6' := hS6.call hb2; clear hB hb2 i3 hS4 hS6 ci3; have hB := hB'; clear hB'; have i3 := i3'; clear i3'; have ci3 := i3.1; have hS4 := hS4'; clear hS4'; have hS6 := hS6'; clear hS6'; skip) | fail)
      go_upto_region 12 with (first | fail)
      go_upto_region 13 with (first | (go_at_call 34; (with_reducible refine (F1.out _).mono ?_); rintro e w2 ⟨rfl, hb2⟩; have hB' := below_go hB hb2; have i3' := i3.call hb2; have hS4' := hS4.call hb2; have hS6' := hS6.call hb2; clear hB hb2 i3 hS4 hS6 ci3; have hB := hB'; clear hB'; have i3 := i3'; clear i3'; have ci3 := i3.1; have hS4 := hS4'; clear hS4'; have hS6 := hS6'; clear hS6'; skip) | fail)
      go_upto_region 14 with (first | (go_at_call 35; (with_reducible refine (F2.out _).mono ?_); rintro e w2 ⟨rfl, hb2⟩; have hB' := below_go hB hb2; have i3' := i3.call hb2; have hS4' := hS4.call hb2; have hS6' := hS6.call hb2; clear hB hb2 i3 hS4 hS6 ci3; have hB := hB'; clear hB'; have i3 := i3'; clear i3'; have ci3 := i3.1; have hS4 := hS4'; clear hS4'; have hS6 := hS6'; clear hS6'; skip) | fail)
      go_upto_region 16 with (first | fail)
      go_upto_region 17 with (first | (go_at_call 30; (with_reducible refine (S1.out _).mono ?_); rintro e w2 ⟨rfl, hb2⟩; have hB' := below_go hB hb2; have i3' := i3.call hb2; have hS4' := hS4.call hb2; have hS6' := hS6.call hb2; clear hB hb2 i3 hS4 hS6 ci3; have hB := hB'; clear hB'; have i3 := i3'; clear i3'; have ci3 := i3.1; have hS4 := hS4'; clear hS4'; have hS6 := hS6'; clear hS6'; skip) | fail)
      generalize hW : World.alloc w2 _ = w3
      have hbn : Below w2.heap.size w2 w3 := by (rw [← hW]; exact below_new (Below.refl _ _) _)
      have hB' : Below w.heap.size w w3 := below_go hB hbn
      have i3' := i3.call hbn
      have hS4' := hS4.call hbn
      have hS6' := hS6.call hbn
      have i16 : Has w3 w2.heap.size 4 (fun o => .int .i64 (nx o)) := (Has.newat (n := 4) hW rfl).congr fun o ho => lit4' _ o ho
      clear hW hbn hB i3 hS4 hS6 ci3; have hB := hB'; clear hB'
      have i3 := i3'; clear i3'; have ci3 := i3.1
      have hS4 := hS4'; clear hS4'
      have hS6 := hS6'; clear hS6'
      have ci16 := i16.1
      generalize w2.heap.size = Ei16 at *
      clear w2
      go_upto_region 18 with (first | (go_at_call 36; (with_reducible refine (S2.out _).mono ?_); rintro e w2 ⟨rfl, hb2⟩; have hB' := below_go hB hb2; have i3' := i3.call hb2; have i16' := i16.call hb2; have hS4' := hS4.call hb2; have hS6' := hS6.call hb2; clear hB hb2 i3 i16 hS4 hS6 ci3 ci16; have hB := hB'; clear hB'; have i3 := i3'; clear i3'; have ci3 := i3.1; have i16 := i16'; clear i16'; have ci16 := i16.1; have hS4 := hS4'; clear hS4'; have hS6 := hS6'; clear hS6'; skip) | fail)
      generalize hW : World.alloc w2 _ = w3
      have hbn : Below w2.heap.size w2 w3 := by (rw [← hW]; exact below_new (Below.refl _ _) _)
      have hB' : Below w.heap.size w w3 := below_go hB hbn
      have i3' := i3.call hbn
      have i16' := i16.call hbn
      have hS4' := hS4.call hbn
      have hS6' := hS6.call hbn
      have i19 : Has w3 w2.heap.size 4 (fun o => .int .i64 (nx o)) := (Has.newat (n := 4) hW rfl).congr fun o ho => lit4' _ o ho
      clear hW hbn hB i3 i16 hS4 hS6 ci3 ci16; have hB := hB'; clear hB'
      have i3 := i3'; clear i3'; have ci3 := i3.1
      have i16 := i16'; clear i16'; have ci16 := i16.1
      have hS4 := hS4'; clear hS4'
      have hS6 := hS6'; clear hS6'
      have ci19 := i19.1
      generalize w2.heap.size = Ei19 at *
      clear w2
      go_upto_region 20 with (first | fail)
      go_upto_region 21 with (first | (go_at_call 37; (with_reducible refine (N1.out _).mono ?_); rintro e w2 ⟨rfl, hb2⟩; have hB' := below_go hB hb2; have i3' := i3.call hb2; have i16' := i16.call hb2; have i19' := i19.call hb2; have hS4' := hS4.call hb2; have hS6' := hS6.call hb2; clear hB hb2 i3 i16 i19 hS4 hS6 ci3 ci16 ci19; have hB := hB'; clear hB'; have i3 := i3'; clear i3'; have ci3 := i3.1; have i16 := i16'; clear i16'; have ci16 := i16.1; have i19 := i19'; clear i19'; have ci19 := i19.1; have hS4 := hS4'; clear hS4'; have hS6 := hS6'; clear hS6'; skip) | fail)
      go_upto_region 22 with (first | (go_at_call 38; (with_reducible refine (N2.out _).mono ?_); rintro e w2 ⟨rfl, hb2⟩; have hB' := below_go hB hb2; have i3' := i3.call hb2; have i16' := i16.call hb2; have i19' := i19.call hb2; have hS4' := hS4.call hb2; have hS6' := hS6.call hb2; clear hB hb2 i3 i16 i19 hS4 hS6 ci3 ci16 ci19; have hB := hB'; clear hB'; have i3 := i3'; clear i3'; have ci3 := i3.1; have i16 := i16'; clear i16'; have ci16 := i16.1; have i19 := i19'; clear i19'; have ci19 := i19.1; have hS4 := hS4'; clear hS4'; have hS6 := hS6'; clear hS6'; skip) | fail)
      go_upto_region 24 with (first | fail)
      go_upto_region 25 with (first | (go_at_call 39; (with_reducible refine (HD2.out _ hB).mono ?_); rintro e w2 ⟨z, rfl, hz, hb2⟩; have hB' := below_go hB hb2; have i3' := i3.call hb2; have i16' := i16.call hb2; have i19' := i19.call hb2; have hS4' := hS4.call hb2; have hS6' := hS6.call hb2; clear hB hb2 i3 i16 i19 hS4 hS6 ci3 ci16 ci19; have hB := hB'; clear hB'; have i3 := i3'; clear i3'; have ci3 := i3.1; have i16 := i16'; clear i16'; have ci16 := i16.1; have i19 := i19'; clear i19'; have ci19 := i19.1; have hS4 := hS4'; clear hS4'; have hS6 := hS6'; clear hS6'; skip) | fail)
      have hzz := hide hz
      clear hz
      obtain ⟨pz, hpz⟩ : ∃ pz, pz = inB z 0 104975 := ⟨_, rfl⟩
      obtain ⟨rz, hrz⟩ : ∃ rz : Nat → Int, rz = fun i => if i = 0 then zr (inB z 0 104975) (z / 5832) else if i = 1 then zr (inB z 0 104975) (z / 324 % 18) else if i = 2 then zr (inB z 0 104975) (z / 18 % 18) else zr (inB z 0 104975) (z % 18) := ⟨_, rfl⟩
      have A1 : Hid (∀ w, Calls Try.prog 40 #[.int .i64 z] w fun e w' => e = .returned (.tuple #[.agg #[.int .i64 (rz 0), .int .i64 (rz 1), .int .i64 (rz 2), .int .i64 (rz 3)], .bool pz]) ∧ Below w.heap.size w w') := hide (by rw [hrz, hpz]; exact rowAt_any z)
      have A2 : Hid (∀ w, Calls Try.prog 41 #[.int .i64 z] w fun e w' => e = .returned (.tuple #[.agg #[.int .i64 (rz 0), .int .i64 (rz 1), .int .i64 (rz 2), .int .i64 (rz 3)], .bool pz]) ∧ Below w.heap.size w w') := hide (by rw [hrz, hpz]; exact specRowAt_any z)
      clear hpz hrz
      have n3 := neq_R rz rz
      rw [ordR.refl rz] at n3
      go_upto_region 26 with (first | (go_at_call 40; (with_reducible refine (A1.out _).mono ?_); rintro e w2 ⟨rfl, hb2⟩; have hB' := below_go hB hb2; have i3' := i3.call hb2; have i16' := i16.call hb2; have i19' := i19.call hb2; have hS4' := hS4.call hb2; have hS6' := hS6.call hb2; clear hB hb2 i3 i16 i19 hS4 hS6 ci3 ci16 ci19; have hB := hB'; clear hB'; have i3 := i3'; clear i3'; have ci3 := i3.1; have i16 := i16'; clear i16'; have ci16 := i16.1; have i19 := i19'; clear i19'; have ci19 := i19.1; have hS4 := hS4'; clear hS4'; have hS6 := hS6'; clear hS6'; skip) | fail)
      generalize hW : World.alloc w2 _ = w3
      have hbn : Below w2.heap.size w2 w3 := by (rw [← hW]; exact below_new (Below.refl _ _) _)
      have hB' : Below w.heap.size w w3 := below_go hB hbn
      have i3' := i3.call hbn
      have i16' := i16.call hbn
      have i19' := i19.call hbn
      have hS4' := hS4.call hbn
      have hS6' := hS6.call hbn
      have i27 : Has w3 w2.heap.size 4 (fun o => .int .i64 (rz o)) := (Has.newat (n := 4) hW rfl).congr fun o ho => lit4' _ o ho
      clear hW hbn hB i3 i16 i19 hS4 hS6 ci3 ci16 ci19; have hB := hB'; clear hB'
      have i3 := i3'; clear i3'; have ci3 := i3.1
      have i16 := i16'; clear i16'; have ci16 := i16.1
      have i19 := i19'; clear i19'; have ci19 := i19.1
      have hS4 := hS4'; clear hS4'
      have hS6 := hS6'; clear hS6'
      have ci27 := i27.1
      generalize w2.heap.size = Ei27 at *
      clear w2
      go_upto_region 27 with (first | (go_at_call 41; (with_reducible refine (A2.out _).mono ?_); rintro e w2 ⟨rfl, hb2⟩; have hB' := below_go hB hb2; have i3' := i3.call hb2; have i16' := i16.call hb2; have i19' := i19.call hb2; have i27' := i27.call hb2; have hS4' := hS4.call hb2; have hS6' := hS6.call hb2; clear hB hb2 i3 i16 i19 i27 hS4 hS6 ci3 ci16 ci19 ci27; have hB := hB'; clear hB'; have i3 := i3'; clear i3'; have ci3 := i3.1; have i16 := i16'; clear i16'; have ci16 := i16.1; have i19 := i19'; clear i19'; have ci19 := i19.1; have i27 := i27'; clear i27'; have ci27 := i27.1; have hS4 := hS4'; clear hS4'; have hS6 := hS6'; clear hS6'; skip) | fail)
      generalize hW : World.alloc w2 _ = w3
      have hbn : Below w2.heap.size w2 w3 := by (rw [← hW]; exact below_new (Below.refl _ _) _)
      have hB' : Below w.heap.size w w3 := below_go hB hbn
      have i3' := i3.call hbn
      have i16' := i16.call hbn
      have i19' := i19.call hbn
      have i27' := i27.call hbn
      have hS4' := hS4.call hbn
      have hS6' := hS6.call hbn
      have i29 : Has w3 w2.heap.size 4 (fun o => .int .i64 (rz o)) := (Has.newat (n := 4) hW rfl).congr fun o ho => lit4' _ o ho
      clear hW hbn hB i3 i16 i19 i27 hS4 hS6 ci3 ci16 ci19 ci27; have hB := hB'; clear hB'
      have i3 := i3'; clear i3'; have ci3 := i3.1
      have i16 := i16'; clear i16'; have ci16 := i16.1
      have i19 := i19'; clear i19'; have ci19 := i19.1
      have i27 := i27'; clear i27'; have ci27 := i27.1
      have hS4 := hS4'; clear hS4'
      have hS6 := hS6'; clear hS6'
      have ci29 := i29.1
      generalize w2.heap.size = Ei29 at *
      clear w2
      go_upto_region 29 with (first | fail)
      go_upto_region 30 with (first | (go_at_call 42; (with_reducible refine (HD3.out _ hB).mono ?_); rintro e w2 ⟨m, rfl, hm, hb2⟩; have hB' := below_go hB hb2; have i3' := i3.call hb2; have i16' := i16.call hb2; have i19' := i19.call hb2; have i27' := i27.call hb2; have i29' := i29.call hb2; have hS4' := hS4.call hb2; have hS6' := hS6.call hb2; clear hB hb2 i3 i16 i19 i27 i29 hS4 hS6 ci3 ci16 ci19 ci27 ci29; have hB := hB'; clear hB'; have i3 := i3'; clear i3'; have ci3 := i3.1; have i16 := i16'; clear i16'; have ci16 := i16.1; have i19 := i19'; clear i19'; have ci19 := i19.1; have i27 := i27'; clear i27'; have ci27 := i27.1; have i29 := i29'; clear i29'; have ci29 := i29.1; have hS4 := hS4'; clear hS4'; have hS6 := hS6'; clear hS6'; skip) | fail)
      have hmm := hide hm
      clear hm
      obtain ⟨pm, hpm⟩ : ∃ pm, pm = inB m 0 6 := ⟨_, rfl⟩
      obtain ⟨cm, hcm⟩ : ∃ cm : Int, cm = (if inB m 0 6 = true then cimN m else 0) := ⟨_, rfl⟩
      have C1 : Hid (∀ w, Calls Try.prog 12 #[.int .i64 m] w fun e w' => e = .returned (.tuple #[.int .i64 cm, .bool pm]) ∧ Below w.heap.size w w') := hide (by rw [hcm, hpm]; exact countImages_any m)
      have C2 : Hid (∀ w, Calls Try.prog 11 #[.int .i64 m] w fun e w' => e = .returned (.tuple #[.int .i64 cm, .bool pm]) ∧ Below w.heap.size w w') := hide (by rw [hcm, hpm]; exact specCountImages_any m)
      clear hpm hcm
      go_upto_region 31 with (first | (go_at_call 12; (with_reducible refine (C1.out _).mono ?_); rintro e w2 ⟨rfl, hb2⟩; have hB' := below_go hB hb2; have i3' := i3.call hb2; have i16' := i16.call hb2; have i19' := i19.call hb2; have i27' := i27.call hb2; have i29' := i29.call hb2; have hS4' := hS4.call hb2; have hS6' := hS6.call hb2; clear hB hb2 i3 i16 i19 i27 i29 hS4 hS6 ci3 ci16 ci19 ci27 ci29; have hB := hB'; clear hB'; have i3 := i3'; clear i3'; have ci3 := i3.1; have i16 := i16'; clear i16'; have ci16 := i16.1; have i19 := i19'; clear i19'; have ci19 := i19.1; have i27 := i27'; clear i27'; have ci27 := i27.1; have i29 := i29'; clear i29'; have ci29 := i29.1; have hS4 := hS4'; clear hS4'; have hS6 := hS6'; clear hS6'; skip) | fail)
      go_upto_region 32 with (first | (go_at_call 11; (with_reducible refine (C2.out _).mono ?_); rintro e w2 ⟨rfl, hb2⟩; have hB' := below_go hB hb2; have i3' := i3.call hb2; have i16' := i16.call hb2; have i19' := i19.call hb2; have i27' := i27.call hb2; have i29' := i29.call hb2; have hS4' := hS4.call hb2; have hS6' := hS6.call hb2; clear hB hb2 i3 i16 i19 i27 i29 hS4 hS6 ci3 ci16 ci19 ci27 ci29; have hB := hB'; clear hB'; have i3 := i3'; clear i3'; have ci3 := i3.1; have i16 := i16'; clear i16'; have ci16 := i16.1; have i19 := i19'; clear i19'; have ci19 := i19.1; have i27 := i27'; clear i27'; have ci27 := i27.1; have i29 := i29'; clear i29'; have ci29 := i29.1; have hS4 := hS4'; clear hS4'; have hS6 := hS6'; clear hS6'; skip) | fail)
      go_upto_region 34 with (first | fail)
      clear B2 R1 I1 I2 F1 F2 S1 S2 N1 N2 A1 A2 C1 C2 HD2 HD3 HRR n1 n3 ci19 i19 ci27 i27 ci29 i29 hS6
      go_wp2_with fail
      obtain ⟨g4, rfl, _, h4⟩ := hS4 (by omega)
      clear hS4
      go_loopw [36] (fun v wr => ∃ i : Nat, i ≤ nL ∧ v = .int .i64 i ∧ Below w.heap.size w wr ∧ Has wr Ei3 4 (fun o => .int .i64 (r o)) ∧ Has wr Ei16 4 (fun o => .int .i64 (nx o)) ∧ Has wr g4 (nL * 4) (rsC li)) (fun i _ => nL - (intOf i).toNat)
      case atStart => exact ⟨0, by omega, rfl, hB, i3, i16, h4⟩
      case round =>
        clear hB i3 ci3 i16 ci16 h4
        obtain ⟨i, hi, rfl, hB, i3, i16, h4⟩ := hrel
        have ci3 := i3.1
        have ci16 := i16.1
        have a0 : (0 : Int) ≤ i := by omega
        by_cases hin : i < nL
        · have a1 : (i : Int) < nL := by omega
          obtain ⟨hq1, hq2⟩ := HQ.out i hin
          have HQ1 := hide hq1
          have hr7 : RRo g4 i (atR li i) _ := rro_of h4 (by omega)
          have nq := neq_R (SR.slid (atR li i)).out r
          rw [hq2] at nq
          clear hq1 hq2
          generalize (SR.slid (atR li i)).out = qo at *
          generalize (SR.slid (atR li i)).score = qs at *
          generalize atR li i = qr at *
          have ch4 := h4.1
          go_upto_region 38 with (first | (refine load_RRo rfl _ rfl _ _ _ rfl hr7 ?_) | (go_at_call 30; (with_reducible refine (HQ1.out _).mono ?_); rintro e w2 ⟨rfl, hb2⟩; have hB' := below_go hB hb2; have i3' := i3.call hb2; have i16' := i16.call hb2; have h4' := h4.call hb2; clear hB hb2 i3 i16 h4 ci3 ci16 ch4; have hB := hB'; clear hB'; have i3 := i3'; clear i3'; have ci3 := i3.1; have i16 := i16'; clear i16'; have ci16 := i16.1; have h4 := h4'; clear h4'; have ch4 := h4.1; skip))
          generalize hW : World.alloc w2 _ = w3
          have hbn : Below w2.heap.size w2 w3 := by (rw [← hW]; exact below_new (Below.refl _ _) _)
          have hB' : Below w.heap.size w w3 := below_go hB hbn
          have i3' := i3.call hbn
          have i16' := i16.call hbn
          have h4' := h4.call hbn
          have i37 : Has w3 w2.heap.size 4 (fun o => .int .i64 (qo o)) := (Has.newat (n := 4) hW rfl).congr fun o ho => lit4' _ o ho
          clear hW hbn hB i3 i16 h4 ci3 ci16 ch4; have hB := hB'; clear hB'
          have i3 := i3'; clear i3'; have ci3 := i3.1
          have i16 := i16'; clear i16'; have ci16 := i16.1
          have h4 := h4'; clear h4'; have ch4 := h4.1
          have ci37 := i37.1
          generalize w2.heap.size = Ei37 at *
          clear w2
          go_wp2_with fail
          go_roundw
          case rel => exact ⟨i + 1, by omega, by go_num, hB, i3, i16, h4⟩
          case measure => (simp [intOf]; omega)
        · obtain rfl : i = nL := by omega
          go_upto_region 42 with fail
          obtain ⟨hnx, hrr, hnu⟩ := HP.out (by first | exact rfl | trivial)
          obtain ⟨na, nb, nc, nd, ne⟩ := num_at (hrr 0 (by omega)) (hrr 1 (by omega)) (hrr 2 (by omega)) (hrr 3 (by omega)) nu (by omega)
          have A3 : Hid (∀ w, Calls Try.prog 40 #[.int .i64 nu] w fun e w' => e = .returned (.tuple #[.agg #[.int .i64 (r 0), .int .i64 (r 1), .int .i64 (r 2), .int .i64 (r 3)], .bool true]) ∧ Below w.heap.size w w') := hide (by
            have h := rowAt_any nu
            rw [na, nb, nc, nd, ne] at h
            exact h)
          have hnxr : ∀ i, i < 4 → 0 ≤ nx i ∧ nx i ≤ 17 := by rw [hnx]; exact slid_in' hrr
          obtain ⟨l2, hl2⟩ : ∃ l2, l2 = rbO nx := ⟨_, rfl⟩
          obtain ⟨n2L, hn2⟩ : ∃ n2L, n2L = l2.length := ⟨_, rfl⟩
          have hn248 : n2L ≤ 48 := by rw [hn2, hl2]; exact rbO_le
          have B3 : Hid (∀ w, Calls Try.prog 14 #[.agg #[.int .i64 (nx 0), .int .i64 (nx 1), .int .i64 (nx 2), .int .i64 (nx 3)]] w fun e w' => ∃ A c, e = .returned (.tuple #[.slice A n2L c, .bool true]) ∧ Sl w' w.heap.size A (n2L * 4) (rsC l2) ∧ Below w.heap.size w w') := hide (by
            have h := rowsBeforeX_own nx
            rw [rowB_of hnxr] at h
            rw [hn2, hl2]; exact h)
          obtain ⟨J, hJ1, hJ2, hJ3⟩ := first_eq (l := l2) (r := r) (by rw [hl2, rbO_true (rowB_of hnxr), hnx]; exact rbP_back hrr)
          rw [← hn2] at hJ1
          have HJ2 := hide hJ2
          have HJ3 := hide hJ3
          have nr := neq_R r r
          rw [ordR.refl r] at nr
          clear hnx hrr hnu na nb nc nd ne hnxr hl2 hn2 hJ2 hJ3 HP HLI
          go_upto_region 43 with (first | (go_at_call 40; (with_reducible refine (A3.out _).mono ?_); rintro e w2 ⟨rfl, hb2⟩; have hB' := below_go hB hb2; have i3' := i3.call hb2; have i16' := i16.call hb2; clear hB hb2 i3 i16 ci3 ci16; have hB := hB'; clear hB'; have i3 := i3'; clear i3'; have ci3 := i3.1; have i16 := i16'; clear i16'; have ci16 := i16.1; skip) | fail)
          generalize hW : World.alloc w2 _ = w3
          have hbn : Below w2.heap.size w2 w3 := by (rw [← hW]; exact below_new (Below.refl _ _) _)
          have hB' : Below w.heap.size w w3 := below_go hB hbn
          have i3' := i3.call hbn
          have i16' := i16.call hbn
          have i40 : Has w3 w2.heap.size 4 (fun o => .int .i64 (r o)) := (Has.newat (n := 4) hW rfl).congr fun o ho => lit4' _ o ho
          clear hW hbn hB i3 i16 ci3 ci16; have hB := hB'; clear hB'
          have i3 := i3'; clear i3'; have ci3 := i3.1
          have i16 := i16'; clear i16'; have ci16 := i16.1
          have ci40 := i40.1
          generalize w2.heap.size = Ei40 at *
          clear w2
          go_upto_region 44 with (first | (go_at_call 14; (with_reducible refine (B3.out _).mono ?_); rintro e w2 ⟨A42, c42, rfl, hS42, hb2⟩; have hB' := below_go hB hb2; have i3' := i3.call hb2; have i16' := i16.call hb2; have i40' := i40.call hb2; clear hB hb2 i3 i16 i40 ci3 ci16 ci40; have hB := hB'; clear hB'; have i3 := i3'; clear i3'; have ci3 := i3.1; have i16 := i16'; clear i16'; have ci16 := i16.1; have i40 := i40'; clear i40'; have ci40 := i40.1; skip) | fail)
          obtain ⟨g42, rfl, _, h42⟩ := hS42 (by omega)
          clear hS42
          go_upto_region 46 with (first | fail)
          go_wp2_with fail
          go_loopw [44] (fun v wr => ∃ i : Nat, i ≤ J ∧ v = .int .i64 i ∧ Below w.heap.size w wr ∧ Has wr Ei3 4 (fun o => .int .i64 (r o)) ∧ Has wr g42 (n2L * 4) (rsC l2)) (fun i _ => J - (intOf i).toNat)
          case atStart => exact ⟨0, by omega, rfl, hB, i3, h42⟩
          case round =>
            clear hB i3 ci3 h42 i16 ci16 i40 ci40
            obtain ⟨i, hi, rfl, hB, i3, h42⟩ := hrel
            have zi3 := i3.2.2
            have zh42 := h42.2.2
            have b0 : (0 : Int) ≤ i := by omega
            have b1 : (i : Int) < n2L := by omega
            have hE := eql_R (atR l2 i) r
            by_cases hij : i = J
            · subst hij
              rw [HJ2.out] at hE
              go_wp2_with fail
              refine wp_region_noPanic ?_
              refine wp_region_held_drew (S := (fun w' => RR Ei3 r w' ∧ RRo g42 i (atR l2 i) w')) (by kernel_rfl) ?hS03 (fun hHeld => ?_)
              case hS03 => exact ⟨rr_of i3, rro_of h42 (by omega)⟩
              have hB' : Below w.heap.size w (World.drew _) := Below.drew hB
              have h42' := Has.drew h42
              have i3' := Has.drew i3
              (try clear ch42); (try clear fh42)
              (try clear ci3); (try clear fi3)
              generalize hWW : World.drew _ = wx at *; clear hWW
              clear hB; have hB := hB'; clear hB'; clear h42 zh42; have h42 := h42'; clear h42'; have zh42 := h42.2.2; clear i3 zi3; have i3 := i3'; clear i3'; have zi3 := i3.2.2
              refine take_d (i := 0) (some 283) (v := ?_) rfl rfl (by kernel_rfl) (by kernel_rfl) (by kernel_rfl) (fun _ _ _ h => h) (Or.inl ⟨by rfl, ?_⟩) (by assumption) ?_
              rotate_left; (intro w hSw; clear hSw; go_simp; try with_reducible rfl)
              all_goals (try simp only [Act.put, List.setIfInBounds_toArray, List.set_cons_zero, List.set_cons_succ])
              refine take_d (i := 1) (some 284) (v := ?_) rfl rfl (by kernel_rfl) (by kernel_rfl) (by kernel_rfl) (fun _ _ _ h => h) (Or.inl ⟨by rfl, ?_⟩) (by assumption) ?_
              rotate_left; (intro w hSw; clear hSw; go_simp; try with_reducible rfl)
              all_goals (try simp only [Act.put, List.setIfInBounds_toArray, List.set_cons_zero, List.set_cons_succ])
              refine take_d (i := 2) (some 285) (v := ?_) rfl rfl (by kernel_rfl) (by kernel_rfl) (by kernel_rfl) (fun _ _ _ h => h) (Or.inl ⟨by rfl, ?_⟩) (by assumption) ?_
              rotate_left; (intro w hSw; clear hSw; go_simp; try with_reducible rfl)
              all_goals (try simp only [Act.put, List.setIfInBounds_toArray, List.set_cons_zero, List.set_cons_succ])
              refine take_d (i := 3) (some 286) (oi := _) (v := _) rfl rfl (by kernel_rfl) (by kernel_rfl) (by kernel_rfl) (fun _ _ _ h => h) (yieldsIf_load_mid (by rfl) _ _ rfl _ _ rfl _ _ (fun w h => h.2.r) Try.underlying22 rfl (by kernel_rfl)) (by assumption) ?_
              all_goals (try simp only [Act.put, List.setIfInBounds_toArray, List.set_cons_zero, List.set_cons_succ])
              refine take_d (i := 4) (some 287) (oi := _) (v := _) rfl rfl (by kernel_rfl) (by kernel_rfl) (by kernel_rfl) (fun _ _ _ h => h) (yieldsIf_load_mid (by rfl) _ _ rfl _ _ rfl _ _ (fun w h => h.1.r) Try.underlying22 rfl (by kernel_rfl)) (by assumption) ?_
              all_goals (try simp only [Act.put, List.setIfInBounds_toArray, List.set_cons_zero, List.set_cons_succ])
              refine take_d (i := 5) (some 288) (v := ?_) rfl rfl (by kernel_rfl) (by kernel_rfl) (by kernel_rfl) (fun _ _ _ h => h) (Or.inl ⟨by rfl, ?_⟩) (by assumption) ?_
              rotate_left; (intro w hSw; clear hSw; go_simp; try with_reducible rfl)
              all_goals (try simp only [Act.put, List.setIfInBounds_toArray, List.set_cons_zero, List.set_cons_succ])
              refine wpAnyH_done (by kernel_rfl) ?_ _
              (try refine NoPanic.normal ?_)
              go_wp2
              go_ret
              exact ⟨rfl, hB⟩
            · rw [HJ3.out i (by omega)] at hE
              go_wp2_with fail
              refine wp_region_noPanic ?_
              refine wp_region_held_drew (S := (fun w' => RR Ei3 r w' ∧ RRo g42 i (atR l2 i) w')) (by kernel_rfl) ?hS04 (fun hHeld => ?_)
              case hS04 => exact ⟨rr_of i3, rro_of h42 (by omega)⟩
              have hB' : Below w.heap.size w (World.drew _) := Below.drew hB
              have h42' := Has.drew h42
              have i3' := Has.drew i3
              (try clear ch42); (try clear fh42)
              (try clear ci3); (try clear fi3)
              generalize hWW : World.drew _ = wx at *; clear hWW
              clear hB; have hB := hB'; clear hB'; clear h42 zh42; have h42 := h42'; clear h42'; have zh42 := h42.2.2; clear i3 zi3; have i3 := i3'; clear i3'; have zi3 := i3.2.2
              refine take_d (i := 0) (some 283) (v := ?_) rfl rfl (by kernel_rfl) (by kernel_rfl) (by kernel_rfl) (fun _ _ _ h => h) (Or.inl ⟨by rfl, ?_⟩) (by assumption) ?_
              rotate_left; (intro w hSw; clear hSw; go_simp; try with_reducible rfl)
              all_goals (try simp only [Act.put, List.setIfInBounds_toArray, List.set_cons_zero, List.set_cons_succ])
              refine take_d (i := 1) (some 284) (v := ?_) rfl rfl (by kernel_rfl) (by kernel_rfl) (by kernel_rfl) (fun _ _ _ h => h) (Or.inl ⟨by rfl, ?_⟩) (by assumption) ?_
              rotate_left; (intro w hSw; clear hSw; go_simp; try with_reducible rfl)
              all_goals (try simp only [Act.put, List.setIfInBounds_toArray, List.set_cons_zero, List.set_cons_succ])
              refine take_d (i := 2) (some 285) (v := ?_) rfl rfl (by kernel_rfl) (by kernel_rfl) (by kernel_rfl) (fun _ _ _ h => h) (Or.inl ⟨by rfl, ?_⟩) (by assumption) ?_
              rotate_left; (intro w hSw; clear hSw; go_simp; try with_reducible rfl)
              all_goals (try simp only [Act.put, List.setIfInBounds_toArray, List.set_cons_zero, List.set_cons_succ])
              refine take_d (i := 3) (some 286) (oi := _) (v := _) rfl rfl (by kernel_rfl) (by kernel_rfl) (by kernel_rfl) (fun _ _ _ h => h) (yieldsIf_load_mid (by rfl) _ _ rfl _ _ rfl _ _ (fun w h => h.2.r) Try.underlying22 rfl (by kernel_rfl)) (by assumption) ?_
              all_goals (try simp only [Act.put, List.setIfInBounds_toArray, List.set_cons_zero, List.set_cons_succ])
              refine take_d (i := 4) (some 287) (oi := _) (v := _) rfl rfl (by kernel_rfl) (by kernel_rfl) (by kernel_rfl) (fun _ _ _ h => h) (yieldsIf_load_mid (by rfl) _ _ rfl _ _ rfl _ _ (fun w h => h.1.r) Try.underlying22 rfl (by kernel_rfl)) (by assumption) ?_
              all_goals (try simp only [Act.put, List.setIfInBounds_toArray, List.set_cons_zero, List.set_cons_succ])
              refine take_d (i := 5) (some 288) (v := ?_) rfl rfl (by kernel_rfl) (by kernel_rfl) (by kernel_rfl) (fun _ _ _ h => h) (Or.inl ⟨by rfl, ?_⟩) (by assumption) ?_
              rotate_left; (intro w hSw; clear hSw; go_simp; try with_reducible rfl)
              all_goals (try simp only [Act.put, List.setIfInBounds_toArray, List.set_cons_zero, List.set_cons_succ])
              refine wpAnyH_done (by kernel_rfl) ?_ _
              (try refine NoPanic.normal ?_)
              go_wp2
              go_roundw
              case rel => exact ⟨i + 1, by omega, by go_num, hB, i3, h42⟩
              case measure => (simp [intOf]; omega)

namespace fnRowsBack
set_option maxRecDepth 100000 in
theorem lifted (os : Os) (started : os.Started) (H : Type) (enc : TypeId × Value → H) :
    ReturnsInHanded {} Try.checked os 7 .any (Rows.fnRowsBackSpec.pre6 enc Try.prog Try.f7 Rows.fnRowsBackRow.domain false) (Rows.fnRowsBackSpec.post enc Try.prog Try.f7 false true false false) := by
  refine returnsInHanded_of_change_sized (C := Try.checked) own started (by kernel_rfl) Try.func7
    (ChangeSpec.witness6 (enc := enc) (C := Try.checked) false ⟨#[], #[.slice none 0 0], []⟩ 8 (by kernel_rfl) (by kernel_rfl) (by kernel_rfl) (by kernel_rfl)) ?_
  intro W base args ds gs before hval0 hW hcnd hsz0 _
  have hval : ∀ (j : Nat) t v, Try.f7.params[j]? = some t → args[j]? = some v → Value.okWide Try.prog W .any base t v := hval0
  have hW' := hW
  obtain ⟨p, q, hA0, hV, rfl, hfz, hnd⟩ := hW
  have hA : DataW.TrodAll enc Try.prog W 0 (fun _ => true) true Try.f7.params.toList args.toList ds p := hA0
  have hA1 := hA
  rw [Try.params7] at hA hval
  obtain ⟨v0, vs0, d0, ds0, p0, q0, hargs, rfl, rfl, h0, r0⟩ := trodAll_cons hA
  obtain ⟨rfl, rfl, rfl⟩ := trodAll_nil r0
  obtain rfl : args = #[v0] := by cases args; simp_all
  obtain ⟨rfl, rfl⟩ := trodVars_none hV
  obtain ⟨A0, n0, cap0, x0, rfl, _, b0⟩ := bytes_arg Try.underlying35 Try.underlying5 (by kernel_rfl) (hval 0 35 v0 rfl rfl) h0
  have keep : ∀ W', Below W.heap.size W W' → DataW.TrodAll enc Try.prog W' 0 (fun b => decide (b < W.heap.size)) true Try.f7.params.toList _ _ _ := fun W' hb => trodAll_below laidOut hb (by kernel_rfl) hA1
  refine (walk W A0 n0 cap0 x0 b0).mono fun e W' ⟨he, bel⟩ => ?_
  subst he
  exact ⟨_, rfl, _, _, _, [], _, [], hW', trodAll_mk1 (shut_bool Try.underlying4 _), keep W' bel, rfl, bel.frame _, fun h => by cases h⟩
set_option maxRecDepth 100000 in
set_option maxHeartbeats 8000000 in
theorem closed : joinedFacts Try.prog 7 Try.f7 Rows.fnRowsBackSpec Rows.fnRowsBackRow = true := by
  unfold joinedFacts
  refine and2 (and2 (and2 (and2 (and2 (and2 (and2 ?_ Head.mayEnter) ?_) ?_) ?_) ?_) ?_) ?_
  · refine and2 (and2 (and2 (and2 (and2 (and2 (and2 (and2 (and2 (and2 (and2 (and2 (and2 (and2 (and2 ?_ ?_) ?_) ?_) ?_) ?_) ?_) ?_) ?_) ?_) ?_) ?_) ?_) ?_) ?_) ?_
    all_goals (as_aux_lemma => kernel_rfl)
  · rw [Head.liftsFinal]; kernel_rfl
  · rw [Head.make]; kernel_rfl
  all_goals (as_aux_lemma => kernel_rfl)
theorem proved : Rows.FnRowsBackSaid :=
  OpenClaim.holds_of_wide 7 Try.f7 rfl rfl rfl rfl rfl rfl rfl ⟨rfl, rfl, rfl, rfl, rfl⟩ rfl rfl rfl rfl rfl (by kernel_rfl) Try.func7 closed
    (of_decide_eq_true (by kernel_rfl)) (by unfold Func.isWrapper; first | (rw [if_pos (by decide +kernel)]; kernel_rfl) | (rw [if_neg (by decide +kernel)]; exact ⟨rfl, rfl⟩))
    (fun os started H enc _ => lifted os started H enc)
end fnRowsBack
theorem fnRowsBack_holds : Rows.FnRowsBackSaid := fnRowsBack.proved
#print axioms fnRowsBack_holds
end Go.Proofs.Ytmbmknpjmkgjlaa
