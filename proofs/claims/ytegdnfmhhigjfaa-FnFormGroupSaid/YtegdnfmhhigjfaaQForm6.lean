/-
  Contracts: FormBehind and FormBack, the program's.
-/
import Derived.Test.YtegdnfmhhigjfaaForm5
import Derived.Test.YtegdnfmhhigjfaaQEqlB
import Derived.Test.YtegdnfmhhigjfaaQTiles
import Derived.Test.YtegdnfmhhigjfaaQBoard1
import Derived.Test.YtegdnfmhhigjfaaLine2
import Derived.Test.YtegdnfmhhigjfaaLine3
import Derived.IntWalk
import Derived.Test.YtegdnfmhhigjfaaSlide
import Derived.Test.YtegdnfmhhigjfaaQFgD
namespace Go.Proofs.Ytegdnfmhhigjfaa
open Go.RowKit

set_option maxHeartbeats 8000000 in
set_option maxRecDepth 100000 in
theorem formBehind_any (k m : Int) (w : World) : Calls Try.prog 12 #[.int .i64 k, .int .i64 m] w fun e w' => e = .returned (.tuple #[.int .i64 (zr (inB k 0 7 && inB m 0 7) ((bhP k.toNat m.toNat : Nat) : Int)), .bool (inB k 0 7 && inB m 0 7)]) ∧ Below w.heap.size w w' := by
  cases hk : inB k 0 7
  · simp only [Bool.false_and, zr_false]
    go_enter Try.func12, Try.ntmps12
    have hB : Below w.heap.size w w := Below.refl _ _
    go_wp2_with (first | (go_at_call 62; refine (isForm_any _ _).mono ?_; rintro e w1 ⟨rfl, rfl⟩))
    go_ret2
    exact ⟨rfl, (by repeat (first | (with_reducible exact Below.refl _ _) | (with_reducible assumption) | (with_reducible refine below_go ?_ (by with_reducible assumption)) | (with_reducible refine below_new ?_ _) | ((with_reducible refine below_put ?_ ?_ _); rotate_left; (dsimp only; omega)) | (with_reducible refine Below.drew ?_) | (with_reducible refine below_dn ?_ _)))⟩
  · cases hm : inB m 0 7
    · simp only [Bool.and_false, zr_false]
      go_enter Try.func12, Try.ntmps12
      have hB : Below w.heap.size w w := Below.refl _ _
      go_wp2_with (first | (go_at_call 62; refine (isForm_any _ _).mono ?_; rintro e w1 ⟨rfl, rfl⟩))
      go_ret2
      exact ⟨rfl, (by repeat (first | (with_reducible exact Below.refl _ _) | (with_reducible assumption) | (with_reducible refine below_go ?_ (by with_reducible assumption)) | (with_reducible refine below_new ?_ _) | ((with_reducible refine below_put ?_ ?_ _); rotate_left; (dsimp only; omega)) | (with_reducible refine Below.drew ?_) | (with_reducible refine below_dn ?_ _)))⟩
    · obtain ⟨a, ha, rfl⟩ := form_nat hk
      obtain ⟨c, hc, rfl⟩ := form_nat hm
      simp only [Bool.and_self, zr_true, Int.toNat_natCast]
      have p0 := mvP_lt a ha 0 (by omega); have p1 := mvP_lt a ha 1 (by omega)
      obtain ⟨X, Y, hXY, hm0⟩ := moved_cell2 a 0 ha (by omega) 0 0 (hide ⟨rfl, rfl⟩)
      obtain ⟨Z, T, hZT, hm1⟩ := moved_cell2 a 1 ha (by omega) 0 1 (hide ⟨rfl, rfl⟩)
      obtain ⟨X', Y', hXY', hm2⟩ := moved_cell2 c _ hc p0 X Y hXY
      obtain ⟨Z', T', hZT', hm3⟩ := moved_cell2 c _ hc p1 Z T hZT
      go_enter Try.func12, Try.ntmps12
      have hB : Below w.heap.size w w := Below.refl _ _
      go_wp2_with (first | (go_at_call 62; refine (isForm_any _ _).mono ?_; rintro e w1 ⟨rfl, rfl⟩) | (go_at_call 68; (with_reducible refine (hm0 _).mono ?_); rintro e w2 ⟨rfl, hb2⟩; have hB' : Below w.heap.size w w2 := below_go (by repeat (first | (with_reducible exact Below.refl _ _) | (with_reducible assumption) | (with_reducible refine below_go ?_ (by with_reducible assumption)) | (with_reducible refine below_new ?_ _) | ((with_reducible refine below_put ?_ ?_ _); rotate_left; (dsimp only; omega)) | (with_reducible refine Below.drew ?_) | (with_reducible refine below_dn ?_ _))) hb2; clear hB hb2; have hB := hB'; clear hB') | (go_at_call 68; (with_reducible refine (hm1 _).mono ?_); rintro e w2 ⟨rfl, hb2⟩; have hB' : Below w.heap.size w w2 := below_go (by repeat (first | (with_reducible exact Below.refl _ _) | (with_reducible assumption) | (with_reducible refine below_go ?_ (by with_reducible assumption)) | (with_reducible refine below_new ?_ _) | ((with_reducible refine below_put ?_ ?_ _); rotate_left; (dsimp only; omega)) | (with_reducible refine Below.drew ?_) | (with_reducible refine below_dn ?_ _))) hb2; clear hB hb2; have hB := hB'; clear hB') | (go_at_call 68; (with_reducible refine (hm2 _).mono ?_); rintro e w2 ⟨rfl, hb2⟩; have hB' : Below w.heap.size w w2 := below_go (by repeat (first | (with_reducible exact Below.refl _ _) | (with_reducible assumption) | (with_reducible refine below_go ?_ (by with_reducible assumption)) | (with_reducible refine below_new ?_ _) | ((with_reducible refine below_put ?_ ?_ _); rotate_left; (dsimp only; omega)) | (with_reducible refine Below.drew ?_) | (with_reducible refine below_dn ?_ _))) hb2; clear hB hb2; have hB := hB'; clear hB') | (go_at_call 68; (with_reducible refine (hm3 _).mono ?_); rintro e w2 ⟨rfl, hb2⟩; have hB' : Below w.heap.size w w2 := below_go (by repeat (first | (with_reducible exact Below.refl _ _) | (with_reducible assumption) | (with_reducible refine below_go ?_ (by with_reducible assumption)) | (with_reducible refine below_new ?_ _) | ((with_reducible refine below_put ?_ ?_ _); rotate_left; (dsimp only; omega)) | (with_reducible refine Below.drew ?_) | (with_reducible refine below_dn ?_ _))) hb2; clear hB hb2; have hB := hB'; clear hB') | (go_at_call 67; (with_reducible refine (formLike_any _ _ _ _ _ _ hXY' hZT' _).mono ?_); rintro e w2 ⟨rfl, hb2⟩; have hB' : Below w.heap.size w w2 := below_go (by repeat (first | (with_reducible exact Below.refl _ _) | (with_reducible assumption) | (with_reducible refine below_go ?_ (by with_reducible assumption)) | (with_reducible refine below_new ?_ _) | ((with_reducible refine below_put ?_ ?_ _); rotate_left; (dsimp only; omega)) | (with_reducible refine Below.drew ?_) | (with_reducible refine below_dn ?_ _))) hb2; clear hB hb2; have hB := hB'; clear hB'))
      go_ret2
      exact ⟨ret_ib2 (by rw [bhP_like]), (by repeat (first | (with_reducible exact Below.refl _ _) | (with_reducible assumption) | (with_reducible refine below_go ?_ (by with_reducible assumption)) | (with_reducible refine below_new ?_ _) | ((with_reducible refine below_put ?_ ?_ _); rotate_left; (dsimp only; omega)) | (with_reducible refine Below.drew ?_) | (with_reducible refine below_dn ?_ _)))⟩

theorem behind_no (k : Int) (hk : inB k 0 7 = false) (m : Int) (w : World) : Calls Try.prog 12 #[.int .i64 k, .int .i64 m] w fun e w' => e = .returned (.tuple #[.int .i64 0, .bool false]) ∧ Below w.heap.size w w' := by
  have h := formBehind_any k m w
  rw [hk] at h
  simp only [Bool.false_and, zr_false] at h
  exact h
theorem behind_yes (a j : Nat) (ha : a < 8) (hj : j < 8) (w : World) : Calls Try.prog 12 #[.int .i64 a, .int .i64 j] w fun e w' => e = .returned (.tuple #[.int .i64 ((bhP a j : Nat) : Int), .bool true]) ∧ Below w.heap.size w w' := by
  have h := formBehind_any a j w
  have e1 : inB (a : Int) 0 7 = true := by simp [inB]; omega
  have e2 : inB (j : Int) 0 7 = true := by simp [inB]; omega
  rw [e1, e2] at h
  simp only [Bool.and_self, zr_true, Int.toNat_natCast] at h
  exact h

set_option maxHeartbeats 8000000 in
set_option maxRecDepth 100000 in
theorem formBack_any (k : Int) (w : World) : Calls Try.prog 14 #[.int .i64 k] w fun e w' => e = .returned (.tuple #[.int .i64 (zr (inB k 0 7) ((bkP k.toNat : Nat) : Int)), .bool (inB k 0 7)]) ∧ Below w.heap.size w w' := by
  cases hk : inB k 0 7
  · simp only [zr_false]
    go_enter Try.func14, Try.ntmps14
    go_wp2_with fail
    go_loopw [7] (fun v wr => ∃ j : Nat, j ≤ 8 ∧ v = .int .i64 j ∧ Below w.heap.size w wr) (fun i _ => 8 - (intOf i).toNat)
    case atStart => exact ⟨0, by omega, rfl, (by repeat (first | (with_reducible exact Below.refl _ _) | (with_reducible assumption) | (with_reducible refine below_go ?_ (by with_reducible assumption)) | (with_reducible refine below_new ?_ _) | ((with_reducible refine below_put ?_ ?_ _); rotate_left; (dsimp only; omega)) | (with_reducible refine Below.drew ?_) | (with_reducible refine below_dn ?_ _)))⟩
    case round =>
      obtain ⟨j, hj, rfl, hB⟩ := hrel
      by_cases h4 : j = 8
      · subst h4
        go_wp2
        go_ret2
        exact ⟨rfl, hB⟩
      · have hlt : j < 8 := by omega
        go_wp2_with (first | (go_at_call 12; (with_reducible refine (behind_no _ hk _ _).mono ?_); rintro e w2 ⟨rfl, hb2⟩; have hB' : Below w.heap.size w w2 := below_go (by repeat (first | (with_reducible exact Below.refl _ _) | (with_reducible assumption) | (with_reducible refine below_go ?_ (by with_reducible assumption)) | (with_reducible refine below_new ?_ _) | ((with_reducible refine below_put ?_ ?_ _); rotate_left; (dsimp only; omega)) | (with_reducible refine Below.drew ?_) | (with_reducible refine below_dn ?_ _))) hb2; clear hB hb2; have hB := hB'; clear hB'))
        go_roundw
        case rel => exact ⟨j + 1, by omega, by go_num, (by repeat (first | (with_reducible exact Below.refl _ _) | (with_reducible assumption) | (with_reducible refine below_go ?_ (by with_reducible assumption)) | (with_reducible refine below_new ?_ _) | ((with_reducible refine below_put ?_ ?_ _); rotate_left; (dsimp only; omega)) | (with_reducible refine Below.drew ?_) | (with_reducible refine below_dn ?_ _)))⟩
        case measure => simp [intOf]; omega
  · obtain ⟨a, ha, rfl⟩ := form_nat hk
    simp only [zr_true, Int.toNat_natCast]
    have hK := bkP_lt a ha
    have hN := bkP_first a ha
    have HE := hide hN.1; have HA := hide hN.2
    clear hN
    go_enter Try.func14, Try.ntmps14
    go_wp2_with fail
    go_loopw [7] (fun v wr => ∃ j : Nat, j ≤ bkP a ∧ v = .int .i64 j ∧ Below w.heap.size w wr) (fun i _ => bkP a - (intOf i).toNat)
    case atStart => exact ⟨0, by omega, rfl, (by repeat (first | (with_reducible exact Below.refl _ _) | (with_reducible assumption) | (with_reducible refine below_go ?_ (by with_reducible assumption)) | (with_reducible refine below_new ?_ _) | ((with_reducible refine below_put ?_ ?_ _); rotate_left; (dsimp only; omega)) | (with_reducible refine Below.drew ?_) | (with_reducible refine below_dn ?_ _)))⟩
    case round =>
      obtain ⟨j, hj, rfl, hB⟩ := hrel
      have hlt : j < 8 := by omega
      by_cases h4 : j = bkP a
      · have hz : (((bhP a j : Nat) : Int) == 0) = true := by rw [h4, HE.out]; rfl
        have HJ := hide h4
        clear h4
        go_wp2_with (first | (go_at_call 12; (with_reducible refine (behind_yes _ _ ha hlt _).mono ?_); rintro e w2 ⟨rfl, hb2⟩; have hB' : Below w.heap.size w w2 := below_go (by repeat (first | (with_reducible exact Below.refl _ _) | (with_reducible assumption) | (with_reducible refine below_go ?_ (by with_reducible assumption)) | (with_reducible refine below_new ?_ _) | ((with_reducible refine below_put ?_ ?_ _); rotate_left; (dsimp only; omega)) | (with_reducible refine Below.drew ?_) | (with_reducible refine below_dn ?_ _))) hb2; clear hB hb2; have hB := hB'; clear hB'))
        go_ret2
        exact ⟨ret_ib2 (by rw [HJ.out]), (by repeat (first | (with_reducible exact Below.refl _ _) | (with_reducible assumption) | (with_reducible refine below_go ?_ (by with_reducible assumption)) | (with_reducible refine below_new ?_ _) | ((with_reducible refine below_put ?_ ?_ _); rotate_left; (dsimp only; omega)) | (with_reducible refine Below.drew ?_) | (with_reducible refine below_dn ?_ _)))⟩
      · have hl : j < bkP a := by omega
        have hz : (((bhP a j : Nat) : Int) == 0) = false := by
          have := HA.out j hl
          rw [beq_eq_false_iff_ne]; omega
        go_wp2_with (first | (go_at_call 12; (with_reducible refine (behind_yes _ _ ha hlt _).mono ?_); rintro e w2 ⟨rfl, hb2⟩; have hB' : Below w.heap.size w w2 := below_go (by repeat (first | (with_reducible exact Below.refl _ _) | (with_reducible assumption) | (with_reducible refine below_go ?_ (by with_reducible assumption)) | (with_reducible refine below_new ?_ _) | ((with_reducible refine below_put ?_ ?_ _); rotate_left; (dsimp only; omega)) | (with_reducible refine Below.drew ?_) | (with_reducible refine below_dn ?_ _))) hb2; clear hB hb2; have hB := hB'; clear hB'))
        go_roundw
        case rel => exact ⟨j + 1, by omega, by go_num, (by repeat (first | (with_reducible exact Below.refl _ _) | (with_reducible assumption) | (with_reducible refine below_go ?_ (by with_reducible assumption)) | (with_reducible refine below_new ?_ _) | ((with_reducible refine below_put ?_ ?_ _); rotate_left; (dsimp only; omega)) | (with_reducible refine Below.drew ?_) | (with_reducible refine below_dn ?_ _)))⟩
        case measure => simp [intOf]; omega

end Go.Proofs.Ytegdnfmhhigjfaa

namespace Go.Proofs.Ytegdnfmhhigjfaa
open Go.RowKit

set_option maxHeartbeats 4000000 in
set_option maxRecDepth 100000 in
theorem sum_any (b : Nat → Int) (hb : In17 b 16) (w : World) :
    Calls Try.prog 76 #[.agg #[.int .i64 (b 0), .int .i64 (b 1), .int .i64 (b 2), .int .i64 (b 3), .int .i64 (b 4), .int .i64 (b 5), .int .i64 (b 6), .int .i64 (b 7), .int .i64 (b 8), .int .i64 (b 9), .int .i64 (b 10), .int .i64 (b 11), .int .i64 (b 12), .int .i64 (b 13), .int .i64 (b 14), .int .i64 (b 15)]] w fun e w' => e = .returned (.int .i64 (smT b 16)) ∧ Below w.heap.size w w' := by
  have HB := hide hb
  clear hb
  go_enter Try.func76, Try.ntmps76
  go_upto_region 2 with (fail)
  generalize hW : w.alloc _ = w1
  have hB : Below w.heap.size w w1 := by (rw [← hW]; exact (by repeat (first | (with_reducible exact Below.refl _ _) | (with_reducible assumption) | (with_reducible refine below_go ?_ (by with_reducible assumption)) | (with_reducible refine below_new ?_ _) | ((with_reducible refine below_put ?_ ?_ _); rotate_left; (dsimp only; omega)) | (with_reducible refine Below.drew ?_) | (with_reducible refine below_dn ?_ _))))
  have hsz : Hid (w1.heap.size = w.heap.size + 1) := hide (by rw [← hW]; simp)
  have i0 : Has w1 (w.heap.size) 16 (fun o => .int .i64 (b o)) := by (rw [← hW]; repeat (first | (refine Has.new ?_ rfl; simp; done) | refine Has.alloc ?_ _))
  have ci0 := i0.1; have fi0 := i0.2.1; have zi0 := i0.2.2
  clear hW
  go_wp2_with (go_at_call 103; (with_reducible refine (cells_any _).mono ?_); rintro e w2 ⟨g, cap, rfl, hg, hcap, iC, hb2⟩; have hB' : Below w.heap.size w w2 := below_go (by repeat (first | (with_reducible exact Below.refl _ _) | (with_reducible assumption) | (with_reducible refine below_go ?_ (by with_reducible assumption)) | (with_reducible refine below_new ?_ _) | ((with_reducible refine below_put ?_ ?_ _); rotate_left; (dsimp only; omega)) | (with_reducible refine Below.drew ?_) | (with_reducible refine below_dn ?_ _))) hb2; have i0' : Has w2 (w.heap.size) 16 _ := Has.call (by repeat (first | (with_reducible assumption) | (with_reducible apply Has.set) | ((with_reducible apply Has.other); (case hne => (dsimp only; omega))) | (with_reducible apply Has.alloc) | (with_reducible apply Has.drew) | (with_reducible apply Has.drewN))) hb2; clear hB hb2; have hB := hB'; clear hB'; (try clear fi0); (try clear zi0); (try clear ci0); clear i0; have i0 := i0'; clear i0'; have ci0 := i0.1; have fi0 := i0.2.1; have zi0 := i0.2.2)
  have hg1 : w.heap.size < g := by have := hsz.out; omega
  clear ci0 fi0 zi0 hsz
  go_loopw [3, 8] (fun v3 v8 wr => ∃ k : Nat, k ≤ 16 ∧ v8 = .int .i64 k ∧ v3 = .int .i64 (smT b k) ∧ Below w.heap.size w wr ∧ Has wr w.heap.size 16 (fun o => .int .i64 (b o)) ∧ Has wr g 32 (fun p => .int .i64 (cellC p))) (fun _ i _ => 16 - (intOf i).toNat)
  case atStart => exact ⟨0, by omega, rfl, rfl, hB, i0, iC⟩
  case round =>
    clear hB i0 iC
    obtain ⟨k, hk, rfl, rfl, hB, i0, iC⟩ := hrel
    by_cases h4 : k = 16
    · subst h4
      go_wp2
      go_ret
      exact ⟨rfl, hB⟩
    · have hlt : k < 16 := by omega
      obtain ⟨x, y, hx0, hx3, hy0, hy3, _, hxy, q1, q2⟩ := cell_xy iC hlt
      obtain ⟨hb0, hb1⟩ := HB.out k hlt
      obtain ⟨s0, s1⟩ := smT_le HB.out k hk
      obtain ⟨t0, t1⟩ := wth_le hb1
      have t0' : 0 ≤ wz (b k) := t0
      have t1' : wz (b k) ≤ 262144 := t1
      have ci0 := i0.1; have fi0 := i0.2.1; have zi0 := i0.2.2
      go_wp2_with (first | (go_at_call 98; (with_reducible refine (at_xy _ _ _ _ hx0 hx3 hy0 hy3 hxy _).mono ?_); rintro e w2 ⟨rfl, hb2⟩; have hB' : Below w.heap.size w w2 := below_go (by repeat (first | (with_reducible exact Below.refl _ _) | (with_reducible assumption) | (with_reducible refine below_go ?_ (by with_reducible assumption)) | (with_reducible refine below_new ?_ _) | ((with_reducible refine below_put ?_ ?_ _); rotate_left; (dsimp only; omega)) | (with_reducible refine Below.drew ?_) | (with_reducible refine below_dn ?_ _))) hb2; have i0' : Has w2 (w.heap.size) 16 _ := Has.call (by repeat (first | (with_reducible assumption) | (with_reducible apply Has.set) | ((with_reducible apply Has.other); (case hne => (dsimp only; omega))) | (with_reducible apply Has.alloc) | (with_reducible apply Has.drew) | (with_reducible apply Has.drewN))) hb2; have iC' : Has w2 (g) 32 _ := Has.call (by repeat (first | (with_reducible assumption) | (with_reducible apply Has.set) | ((with_reducible apply Has.other); (case hne => (dsimp only; omega))) | (with_reducible apply Has.alloc) | (with_reducible apply Has.drew) | (with_reducible apply Has.drewN))) hb2; clear hB hb2; have hB := hB'; clear hB'; (try clear fi0); (try clear zi0); (try clear ci0); clear i0; have i0 := i0'; clear i0'; have ci0 := i0.1; have fi0 := i0.2.1; have zi0 := i0.2.2; (try clear fiC); (try clear ziC); (try clear ciC); clear iC; have iC := iC'; clear iC'; have ciC := iC.1; have fiC := iC.2.1; have ziC := iC.2.2) | (go_at_call 118; refine (worth_any _ hb0 (by omega) _).mono ?_; rintro e w1 ⟨rfl, rfl⟩) | (refine load_int rfl _ rfl _ _ rfl (by repeat (first | (with_reducible assumption) | (with_reducible apply Has.set) | ((with_reducible apply Has.other); (case hne => (dsimp only; omega))) | (with_reducible apply Has.alloc) | (with_reducible apply Has.drew) | (with_reducible apply Has.drewN))) (by omega) ?_))
      go_roundw
      case rel => exact ⟨k + 1, by omega, by go_num, rfl, hB, i0, iC⟩
      case measure => simp [intOf]; omega

end Go.Proofs.Ytegdnfmhhigjfaa

namespace Go.Proofs.Ytegdnfmhhigjfaa
open Go.RowKit

set_option maxHeartbeats 4000000 in
set_option maxRecDepth 100000 in
theorem l2Sum_any (b : Nat → Int) (hb : In17 b 16) (w : World) :
    Calls Try.prog 88 #[.agg #[.int .i64 (b 0), .int .i64 (b 1), .int .i64 (b 2), .int .i64 (b 3), .int .i64 (b 4), .int .i64 (b 5), .int .i64 (b 6), .int .i64 (b 7), .int .i64 (b 8), .int .i64 (b 9), .int .i64 (b 10), .int .i64 (b 11), .int .i64 (b 12), .int .i64 (b 13), .int .i64 (b 14), .int .i64 (b 15)]] w fun e w' => e = .returned (.int .i64 (smT b 16)) ∧ Below w.heap.size w w' := by
  have HB := hide hb
  clear hb
  go_enter Try.func88, Try.ntmps88
  go_wp2_with fail
  generalize hW : w.alloc _ = w1
  have hB : Below w.heap.size w w1 := by (rw [← hW]; exact (by repeat (first | (with_reducible exact Below.refl _ _) | (with_reducible assumption) | (with_reducible refine below_go ?_ (by with_reducible assumption)) | (with_reducible refine below_new ?_ _) | ((with_reducible refine below_put ?_ ?_ _); rotate_left; (dsimp only; omega)) | (with_reducible refine Below.drew ?_) | (with_reducible refine below_dn ?_ _))))
  have hsz : Hid (w1.heap.size = w.heap.size + 1) := hide (by rw [← hW]; simp)
  have i0 : Has w1 (w.heap.size) 16 (fun o => .int .i64 (b o)) := by (rw [← hW]; repeat (first | (refine Has.new ?_ rfl; simp; done) | refine Has.alloc ?_ _))
  have ci0 := i0.1; have fi0 := i0.2.1; have zi0 := i0.2.2
  clear hW
  clear ci0 fi0 zi0 hsz
  go_loopw [3, 4] (fun v3 v4 wr => ∃ r : Nat, r ≤ 4 ∧ v4 = .int .i64 r ∧ v3 = .int .i64 (smT b (4 * r)) ∧ Below w.heap.size w wr ∧ Has wr w.heap.size 16 (fun o => .int .i64 (b o))) (fun _ i _ => 4 - (intOf i).toNat)
  case atStart => exact ⟨0, by omega, rfl, rfl, hB, i0⟩
  case round =>
    clear hB i0
    obtain ⟨r, hr, rfl, rfl, hB, i0⟩ := hrel
    by_cases h4 : r = 4
    · subst h4
      go_wp2
      go_ret
      exact ⟨rfl, hB⟩
    · have hlt : r < 4 := by omega
      have hlti : (r : Int) < 4 := by omega
      have hdr : decide ((r : Int) < 4) = true := decide_eq_true hlti
      go_wp2_with fail
      go_loopw [3, 5] (fun v3 v5 ws => ∃ c : Nat, c ≤ 4 ∧ v5 = .int .i64 c ∧ v3 = .int .i64 (smT b (4 * r + c)) ∧ Below w.heap.size w ws ∧ Has ws w.heap.size 16 (fun o => .int .i64 (b o))) (fun _ i _ => 4 - (intOf i).toNat)
      case atStart => exact ⟨0, by omega, rfl, rfl, hB, i0⟩
      case round =>
        clear hB i0
        obtain ⟨c, hc, rfl, rfl, hB, i0⟩ := hrel
        by_cases h4 : c = 4
        · subst h4
          go_wp2
          go_roundw
          case rel => exact ⟨r + 1, by omega, by go_num, by rw [Nat.mul_succ], hB, i0⟩
          case measure => simp [intOf]; omega
        · have hltc : c < 4 := by omega
          obtain ⟨hb0, hb1⟩ := HB.out (4 * r + c) (by omega)
          obtain ⟨s0, s1⟩ := smT_le HB.out (4 * r + c) (by omega)
          have q1 : wr.cell? ⟨w.heap.size, r * 4 + c, none⟩ = some (.int .i64 (b (4 * r + c))) := (i0.1 _ (by omega)).trans (by rw [Nat.mul_comm])
          by_cases hz : b (4 * r + c) = 0
          · go_wp2
            go_roundw
            case rel => exact ⟨c + 1, by omega, by go_num, by rw [← Nat.add_assoc, smT, hz]; simp [wth], hB, i0⟩
            case measure => simp [intOf]; omega
          · have ht0 : 0 < b (4 * r + c) := by omega
            obtain ⟨w0, w1⟩ := wrt_le (t := b (4 * r + c)) (by omega)
            go_wp2_with (first | (go_at_call 125; refine (l2Worth_any _ (by omega) (by omega) _).mono ?_; rintro e w1 ⟨rfl, rfl⟩))
            go_roundw
            case rel => exact ⟨c + 1, by omega, by go_num, by rw [← Nat.add_assoc, smT, wth, if_neg hz], hB, i0⟩
            case measure => simp [intOf]; omega

end Go.Proofs.Ytegdnfmhhigjfaa

namespace Go.Proofs.Ytegdnfmhhigjfaa
open Go.RowKit

set_option maxHeartbeats 4000000 in
set_option maxRecDepth 100000 in
theorem sumOf_any (b : Nat → Int) (w : World) : Calls Try.prog 19 #[.agg #[.int .i64 (b 0), .int .i64 (b 1), .int .i64 (b 2), .int .i64 (b 3), .int .i64 (b 4), .int .i64 (b 5), .int .i64 (b 6), .int .i64 (b 7), .int .i64 (b 8), .int .i64 (b 9), .int .i64 (b 10), .int .i64 (b 11), .int .i64 (b 12), .int .i64 (b 13), .int .i64 (b 14), .int .i64 (b 15)]] w fun e w' => e = .returned (.tuple #[.int .i64 (zr (bdB b) (smT b 16)), .bool (bdB b)]) ∧ Below w.heap.size w w' := by
  cases hb : bdB b
  · simp only [zr_false]
    go_enter Try.func19, Try.ntmps19
    go_upto_region 1 with (fail)
    generalize hW : w.alloc _ = w1
    have hB : Below w.heap.size w w1 := by (rw [← hW]; exact (by repeat (first | (with_reducible exact Below.refl _ _) | (with_reducible assumption) | (with_reducible refine below_go ?_ (by with_reducible assumption)) | (with_reducible refine below_new ?_ _) | ((with_reducible refine below_put ?_ ?_ _); rotate_left; (dsimp only; omega)) | (with_reducible refine Below.drew ?_) | (with_reducible refine below_dn ?_ _))))
    have hsz : Hid (w1.heap.size = w.heap.size + 1) := hide (by rw [← hW]; simp)
    have i0 : Has w1 (w.heap.size) 16 (fun o => .int .i64 (b o)) := by (rw [← hW]; repeat (first | (refine Has.new ?_ rfl; simp; done) | refine Has.alloc ?_ _))
    have ci0 := i0.1; have fi0 := i0.2.1; have zi0 := i0.2.2
    clear hW
    go_wp2_with (first | (go_at_call 27; (with_reducible refine (isBoard_any _ _).mono ?_); rintro e w2 ⟨rfl, hb2⟩; have hB' : Below w.heap.size w w2 := below_go (by repeat (first | (with_reducible exact Below.refl _ _) | (with_reducible assumption) | (with_reducible refine below_go ?_ (by with_reducible assumption)) | (with_reducible refine below_new ?_ _) | ((with_reducible refine below_put ?_ ?_ _); rotate_left; (dsimp only; omega)) | (with_reducible refine Below.drew ?_) | (with_reducible refine below_dn ?_ _))) hb2; have i0' : Has w2 (w.heap.size) 16 _ := Has.call (by repeat (first | (with_reducible assumption) | (with_reducible apply Has.set) | ((with_reducible apply Has.other); (case hne => (dsimp only; omega))) | (with_reducible apply Has.alloc) | (with_reducible apply Has.drew) | (with_reducible apply Has.drewN))) hb2; clear hB hb2; have hB := hB'; clear hB'; (try clear fi0); (try clear zi0); (try clear ci0); clear i0; have i0 := i0'; clear i0'; have ci0 := i0.1; have fi0 := i0.2.1; have zi0 := i0.2.2) | (refine load_Board rfl _ rfl _ _ rfl (by repeat (first | (with_reducible assumption) | (with_reducible apply Has.set) | ((with_reducible apply Has.other); (case hne => (dsimp only; omega))) | (with_reducible apply Has.alloc) | (with_reducible apply Has.drew) | (with_reducible apply Has.drewN))) (by omega) ?_))
    go_ret2
    exact ⟨rfl, (by repeat (first | (with_reducible exact Below.refl _ _) | (with_reducible assumption) | (with_reducible refine below_go ?_ (by with_reducible assumption)) | (with_reducible refine below_new ?_ _) | ((with_reducible refine below_put ?_ ?_ _); rotate_left; (dsimp only; omega)) | (with_reducible refine Below.drew ?_) | (with_reducible refine below_dn ?_ _)))⟩
  · have HB := hide (bdB_in hb)
    simp only [zr_true]
    go_enter Try.func19, Try.ntmps19
    go_upto_region 1 with (fail)
    generalize hW : w.alloc _ = w1
    have hB : Below w.heap.size w w1 := by (rw [← hW]; exact (by repeat (first | (with_reducible exact Below.refl _ _) | (with_reducible assumption) | (with_reducible refine below_go ?_ (by with_reducible assumption)) | (with_reducible refine below_new ?_ _) | ((with_reducible refine below_put ?_ ?_ _); rotate_left; (dsimp only; omega)) | (with_reducible refine Below.drew ?_) | (with_reducible refine below_dn ?_ _))))
    have hsz : Hid (w1.heap.size = w.heap.size + 1) := hide (by rw [← hW]; simp)
    have i0 : Has w1 (w.heap.size) 16 (fun o => .int .i64 (b o)) := by (rw [← hW]; repeat (first | (refine Has.new ?_ rfl; simp; done) | refine Has.alloc ?_ _))
    have ci0 := i0.1; have fi0 := i0.2.1; have zi0 := i0.2.2
    clear hW
    go_wp2_with (first | (go_at_call 27; (with_reducible refine (isBoard_any _ _).mono ?_); rintro e w2 ⟨rfl, hb2⟩; have hB' : Below w.heap.size w w2 := below_go (by repeat (first | (with_reducible exact Below.refl _ _) | (with_reducible assumption) | (with_reducible refine below_go ?_ (by with_reducible assumption)) | (with_reducible refine below_new ?_ _) | ((with_reducible refine below_put ?_ ?_ _); rotate_left; (dsimp only; omega)) | (with_reducible refine Below.drew ?_) | (with_reducible refine below_dn ?_ _))) hb2; have i0' : Has w2 (w.heap.size) 16 _ := Has.call (by repeat (first | (with_reducible assumption) | (with_reducible apply Has.set) | ((with_reducible apply Has.other); (case hne => (dsimp only; omega))) | (with_reducible apply Has.alloc) | (with_reducible apply Has.drew) | (with_reducible apply Has.drewN))) hb2; clear hB hb2; have hB := hB'; clear hB'; (try clear fi0); (try clear zi0); (try clear ci0); clear i0; have i0 := i0'; clear i0'; have ci0 := i0.1; have fi0 := i0.2.1; have zi0 := i0.2.2) | (go_at_call 76; (with_reducible refine (sum_any _ HB.out _).mono ?_); rintro e w2 ⟨rfl, hb2⟩; have hB' : Below w.heap.size w w2 := below_go (by repeat (first | (with_reducible exact Below.refl _ _) | (with_reducible assumption) | (with_reducible refine below_go ?_ (by with_reducible assumption)) | (with_reducible refine below_new ?_ _) | ((with_reducible refine below_put ?_ ?_ _); rotate_left; (dsimp only; omega)) | (with_reducible refine Below.drew ?_) | (with_reducible refine below_dn ?_ _))) hb2; have i0' : Has w2 (w.heap.size) 16 _ := Has.call (by repeat (first | (with_reducible assumption) | (with_reducible apply Has.set) | ((with_reducible apply Has.other); (case hne => (dsimp only; omega))) | (with_reducible apply Has.alloc) | (with_reducible apply Has.drew) | (with_reducible apply Has.drewN))) hb2; clear hB hb2; have hB := hB'; clear hB'; (try clear fi0); (try clear zi0); (try clear ci0); clear i0; have i0 := i0'; clear i0'; have ci0 := i0.1; have fi0 := i0.2.1; have zi0 := i0.2.2) | (refine load_Board rfl _ rfl _ _ rfl (by repeat (first | (with_reducible assumption) | (with_reducible apply Has.set) | ((with_reducible apply Has.other); (case hne => (dsimp only; omega))) | (with_reducible apply Has.alloc) | (with_reducible apply Has.drew) | (with_reducible apply Has.drewN))) (by omega) ?_))
    go_ret2
    exact ⟨rfl, (by repeat (first | (with_reducible exact Below.refl _ _) | (with_reducible assumption) | (with_reducible refine below_go ?_ (by with_reducible assumption)) | (with_reducible refine below_new ?_ _) | ((with_reducible refine below_put ?_ ?_ _); rotate_left; (dsimp only; omega)) | (with_reducible refine Below.drew ?_) | (with_reducible refine below_dn ?_ _)))⟩

set_option maxHeartbeats 4000000 in
set_option maxRecDepth 100000 in
theorem specSumOf_any (b : Nat → Int) (w : World) : Calls Try.prog 33 #[.agg #[.int .i64 (b 0), .int .i64 (b 1), .int .i64 (b 2), .int .i64 (b 3), .int .i64 (b 4), .int .i64 (b 5), .int .i64 (b 6), .int .i64 (b 7), .int .i64 (b 8), .int .i64 (b 9), .int .i64 (b 10), .int .i64 (b 11), .int .i64 (b 12), .int .i64 (b 13), .int .i64 (b 14), .int .i64 (b 15)]] w fun e w' => e = .returned (.tuple #[.int .i64 (zr (bdB b) (smT b 16)), .bool (bdB b)]) ∧ Below w.heap.size w w' := by
  cases hb : bdB b
  · simp only [zr_false]
    go_enter Try.func33, Try.ntmps33
    go_upto_region 1 with (fail)
    generalize hW : w.alloc _ = w1
    have hB : Below w.heap.size w w1 := by (rw [← hW]; exact (by repeat (first | (with_reducible exact Below.refl _ _) | (with_reducible assumption) | (with_reducible refine below_go ?_ (by with_reducible assumption)) | (with_reducible refine below_new ?_ _) | ((with_reducible refine below_put ?_ ?_ _); rotate_left; (dsimp only; omega)) | (with_reducible refine Below.drew ?_) | (with_reducible refine below_dn ?_ _))))
    have hsz : Hid (w1.heap.size = w.heap.size + 1) := hide (by rw [← hW]; simp)
    have i0 : Has w1 (w.heap.size) 16 (fun o => .int .i64 (b o)) := by (rw [← hW]; repeat (first | (refine Has.new ?_ rfl; simp; done) | refine Has.alloc ?_ _))
    have ci0 := i0.1; have fi0 := i0.2.1; have zi0 := i0.2.2
    clear hW
    go_wp2_with (first | (go_at_call 64; (with_reducible refine (l2Board_any _ _).mono ?_); rintro e w2 ⟨rfl, hb2⟩; have hB' : Below w.heap.size w w2 := below_go (by repeat (first | (with_reducible exact Below.refl _ _) | (with_reducible assumption) | (with_reducible refine below_go ?_ (by with_reducible assumption)) | (with_reducible refine below_new ?_ _) | ((with_reducible refine below_put ?_ ?_ _); rotate_left; (dsimp only; omega)) | (with_reducible refine Below.drew ?_) | (with_reducible refine below_dn ?_ _))) hb2; have i0' : Has w2 (w.heap.size) 16 _ := Has.call (by repeat (first | (with_reducible assumption) | (with_reducible apply Has.set) | ((with_reducible apply Has.other); (case hne => (dsimp only; omega))) | (with_reducible apply Has.alloc) | (with_reducible apply Has.drew) | (with_reducible apply Has.drewN))) hb2; clear hB hb2; have hB := hB'; clear hB'; (try clear fi0); (try clear zi0); (try clear ci0); clear i0; have i0 := i0'; clear i0'; have ci0 := i0.1; have fi0 := i0.2.1; have zi0 := i0.2.2) | (refine load_Board rfl _ rfl _ _ rfl (by repeat (first | (with_reducible assumption) | (with_reducible apply Has.set) | ((with_reducible apply Has.other); (case hne => (dsimp only; omega))) | (with_reducible apply Has.alloc) | (with_reducible apply Has.drew) | (with_reducible apply Has.drewN))) (by omega) ?_))
    go_ret2
    exact ⟨rfl, (by repeat (first | (with_reducible exact Below.refl _ _) | (with_reducible assumption) | (with_reducible refine below_go ?_ (by with_reducible assumption)) | (with_reducible refine below_new ?_ _) | ((with_reducible refine below_put ?_ ?_ _); rotate_left; (dsimp only; omega)) | (with_reducible refine Below.drew ?_) | (with_reducible refine below_dn ?_ _)))⟩
  · have HB := hide (bdB_in hb)
    simp only [zr_true]
    go_enter Try.func33, Try.ntmps33
    go_upto_region 1 with (fail)
    generalize hW : w.alloc _ = w1
    have hB : Below w.heap.size w w1 := by (rw [← hW]; exact (by repeat (first | (with_reducible exact Below.refl _ _) | (with_reducible assumption) | (with_reducible refine below_go ?_ (by with_reducible assumption)) | (with_reducible refine below_new ?_ _) | ((with_reducible refine below_put ?_ ?_ _); rotate_left; (dsimp only; omega)) | (with_reducible refine Below.drew ?_) | (with_reducible refine below_dn ?_ _))))
    have hsz : Hid (w1.heap.size = w.heap.size + 1) := hide (by rw [← hW]; simp)
    have i0 : Has w1 (w.heap.size) 16 (fun o => .int .i64 (b o)) := by (rw [← hW]; repeat (first | (refine Has.new ?_ rfl; simp; done) | refine Has.alloc ?_ _))
    have ci0 := i0.1; have fi0 := i0.2.1; have zi0 := i0.2.2
    clear hW
    go_wp2_with (first | (go_at_call 64; (with_reducible refine (l2Board_any _ _).mono ?_); rintro e w2 ⟨rfl, hb2⟩; have hB' : Below w.heap.size w w2 := below_go (by repeat (first | (with_reducible exact Below.refl _ _) | (with_reducible assumption) | (with_reducible refine below_go ?_ (by with_reducible assumption)) | (with_reducible refine below_new ?_ _) | ((with_reducible refine below_put ?_ ?_ _); rotate_left; (dsimp only; omega)) | (with_reducible refine Below.drew ?_) | (with_reducible refine below_dn ?_ _))) hb2; have i0' : Has w2 (w.heap.size) 16 _ := Has.call (by repeat (first | (with_reducible assumption) | (with_reducible apply Has.set) | ((with_reducible apply Has.other); (case hne => (dsimp only; omega))) | (with_reducible apply Has.alloc) | (with_reducible apply Has.drew) | (with_reducible apply Has.drewN))) hb2; clear hB hb2; have hB := hB'; clear hB'; (try clear fi0); (try clear zi0); (try clear ci0); clear i0; have i0 := i0'; clear i0'; have ci0 := i0.1; have fi0 := i0.2.1; have zi0 := i0.2.2) | (go_at_call 88; (with_reducible refine (l2Sum_any _ HB.out _).mono ?_); rintro e w2 ⟨rfl, hb2⟩; have hB' : Below w.heap.size w w2 := below_go (by repeat (first | (with_reducible exact Below.refl _ _) | (with_reducible assumption) | (with_reducible refine below_go ?_ (by with_reducible assumption)) | (with_reducible refine below_new ?_ _) | ((with_reducible refine below_put ?_ ?_ _); rotate_left; (dsimp only; omega)) | (with_reducible refine Below.drew ?_) | (with_reducible refine below_dn ?_ _))) hb2; have i0' : Has w2 (w.heap.size) 16 _ := Has.call (by repeat (first | (with_reducible assumption) | (with_reducible apply Has.set) | ((with_reducible apply Has.other); (case hne => (dsimp only; omega))) | (with_reducible apply Has.alloc) | (with_reducible apply Has.drew) | (with_reducible apply Has.drewN))) hb2; clear hB hb2; have hB := hB'; clear hB'; (try clear fi0); (try clear zi0); (try clear ci0); clear i0; have i0 := i0'; clear i0'; have ci0 := i0.1; have fi0 := i0.2.1; have zi0 := i0.2.2) | (refine load_Board rfl _ rfl _ _ rfl (by repeat (first | (with_reducible assumption) | (with_reducible apply Has.set) | ((with_reducible apply Has.other); (case hne => (dsimp only; omega))) | (with_reducible apply Has.alloc) | (with_reducible apply Has.drew) | (with_reducible apply Has.drewN))) (by omega) ?_))
    go_ret2
    exact ⟨rfl, (by repeat (first | (with_reducible exact Below.refl _ _) | (with_reducible assumption) | (with_reducible refine below_go ?_ (by with_reducible assumption)) | (with_reducible refine below_new ?_ _) | ((with_reducible refine below_put ?_ ?_ _); rotate_left; (dsimp only; omega)) | (with_reducible refine Below.drew ?_) | (with_reducible refine below_dn ?_ _)))⟩

end Go.Proofs.Ytegdnfmhhigjfaa

namespace Go.Proofs.Ytegdnfmhhigjfaa
open Go.RowKit

theorem Calls.quiet_of_eq {P : Program} {f : FuncId} {args : Array Value} {w : World} {n : Nat} {v : Value} (h : Calls P f args (w.drewN n) fun e w' => e = .returned v ∧ w.drewN n = w') : Calls P f args (w.drewN n) fun e w'' => e = .returned v ∧ ∃ m, w'' = w.drewN m :=
  h.mono fun _ _ ⟨he, hm⟩ => ⟨he, n, hm.symm⟩

theorem prT_ne {r : Nat → Int} {k : Nat} (h : r k ≠ r (k + 1)) : prT r (k + 1) = prT r k := by
  simp [prT, h]
theorem prT_out {r : Nat → Int} {k : Nat} (h : inB (r k) 1 16 = false) : prT r (k + 1) = prT r k := by
  have h' : ¬ (1 ≤ r k ∧ r k ≤ 16) := by simpa [inB] using h
  simp only [prT]
  rw [if_neg fun hh => h' hh.2]; omega
theorem prT_in {r : Nat → Int} {k : Nat} (e : r k = r (k + 1)) (h : inB (r k) 1 16 = true) : prT r (k + 1) = prT r k + 1 := by
  have h' : 1 ≤ r k ∧ r k ≤ 16 := by simpa [inB] using h
  simp only [prT]
  rw [if_pos ⟨e, h'⟩]

set_option maxHeartbeats 4000000 in
set_option maxRecDepth 100000 in
theorem l2Pairs_any (r : Nat → Int) (w : World) :
    Calls Try.prog 89 #[.agg #[.int .i64 (r 0), .int .i64 (r 1), .int .i64 (r 2), .int .i64 (r 3)]] w fun e w' => e = .returned (.int .i64 (prT r 3)) ∧ Below w.heap.size w w' := by
  go_enter Try.func89, Try.ntmps89
  go_wp2_with fail
  generalize hW : w.alloc _ = w1
  have hB : Below w.heap.size w w1 := by (rw [← hW]; exact (by repeat (first | (with_reducible exact Below.refl _ _) | (with_reducible assumption) | (with_reducible refine below_go ?_ (by with_reducible assumption)) | (with_reducible refine below_new ?_ _) | ((with_reducible refine below_put ?_ ?_ _); rotate_left; (dsimp only; omega)) | (with_reducible refine Below.drew ?_) | (with_reducible refine below_dn ?_ _))))
  have hsz : Hid (w1.heap.size = w.heap.size + 1) := hide (by rw [← hW]; simp)
  have i0 : Has w1 (w.heap.size) 4 (fun o => .int .i64 (r o)) := by (rw [← hW]; repeat (first | (refine Has.new ?_ rfl; simp; done) | refine Has.alloc ?_ _))
  have ci0 := i0.1; have fi0 := i0.2.1; have zi0 := i0.2.2
  clear hW
  clear ci0 fi0 zi0 hsz
  go_loopw [3, 4] (fun v3 v4 wr => ∃ k : Nat, k ≤ 3 ∧ v4 = .int .i64 ((k : Int) + 1) ∧ v3 = .int .i64 (prT r k) ∧ Below w.heap.size w wr ∧ Has wr w.heap.size 4 (fun o => .int .i64 (r o))) (fun _ i _ => 4 - (intOf i).toNat)
  case atStart => exact ⟨0, by omega, rfl, rfl, hB, i0⟩
  case round =>
    clear hB i0
    obtain ⟨k, hk, rfl, rfl, hB, i0⟩ := hrel
    by_cases h4 : k = 3
    · subst h4
      go_wp2
      go_ret
      exact ⟨rfl, hB⟩
    · have hlt : k < 3 := by omega
      obtain ⟨p0, p1⟩ := prT_le r k
      have a1 : (0 : Int) ≤ k := by omega
      have a2 : (k : Int) < 3 := by omega
      have s1 : IntKind.i64.wrap ((k : Int) + 1 - 1) = (k : Int) := by rw [IntWalk.i64_in _ (by omega)]; omega
      have s2 : ((k : Int) + 1).toNat = k + 1 := by omega
      have q1 : wr.cell? ⟨w.heap.size, k, none⟩ = some (.int .i64 (r k)) := i0.1 _ (by omega)
      have q2 : wr.cell? ⟨w.heap.size, k + 1, none⟩ = some (.int .i64 (r (k + 1))) := i0.1 _ (by omega)
      by_cases he : r k = r (k + 1)
      · have he' : (r (k + 1) == r k) = true := by simpa using he.symm
        have HE := hide he
        clear he
        cases hi : inB (r k) 1 16
        · have hi2 : inB (r (k + 1)) 1 16 = false := by rw [← HE.out]; exact hi
          have HI := hide hi
          clear hi
          go_wp2_with fail
          go_quiet ((go_at_call 105; exact Calls.quiet_of_eq (l1In_any _ _ _ _)))
          clear s1 s2
          go_wp2
          go_roundw
          case rel => exact ⟨k + 1, by omega, by go_num, by rw [prT_out HI.out], (by repeat (first | (with_reducible exact Below.refl _ _) | (with_reducible assumption) | (with_reducible refine below_go ?_ (by with_reducible assumption)) | (with_reducible refine below_new ?_ _) | ((with_reducible refine below_put ?_ ?_ _); rotate_left; (dsimp only; omega)) | (with_reducible refine Below.drew ?_) | (with_reducible refine below_dn ?_ _))), (by repeat (first | (with_reducible assumption) | (with_reducible apply Has.set) | ((with_reducible apply Has.other); (case hne => (dsimp only; omega))) | (with_reducible apply Has.alloc) | (with_reducible apply Has.drew) | (with_reducible apply Has.drewN)))⟩
          case measure => simp [intOf]; omega
        · have hi2 : inB (r (k + 1)) 1 16 = true := by rw [← HE.out]; exact hi
          have HI := hide hi
          clear hi
          go_wp2_with fail
          go_quiet ((go_at_call 105; exact Calls.quiet_of_eq (l1In_any _ _ _ _)))
          clear s1 s2
          go_wp2
          go_roundw
          case rel => exact ⟨k + 1, by omega, by go_num, by rw [prT_in HE.out HI.out], (by repeat (first | (with_reducible exact Below.refl _ _) | (with_reducible assumption) | (with_reducible refine below_go ?_ (by with_reducible assumption)) | (with_reducible refine below_new ?_ _) | ((with_reducible refine below_put ?_ ?_ _); rotate_left; (dsimp only; omega)) | (with_reducible refine Below.drew ?_) | (with_reducible refine below_dn ?_ _))), (by repeat (first | (with_reducible assumption) | (with_reducible apply Has.set) | ((with_reducible apply Has.other); (case hne => (dsimp only; omega))) | (with_reducible apply Has.alloc) | (with_reducible apply Has.drew) | (with_reducible apply Has.drewN)))⟩
          case measure => simp [intOf]; omega
      · have he' : (r (k + 1) == r k) = false := by simpa using fun h => he h.symm
        have HE := hide he
        clear he
        go_wp2_with fail
        go_quiet (fail)
        clear s1 s2
        go_wp2
        go_roundw
        case rel => exact ⟨k + 1, by omega, by go_num, by rw [prT_ne HE.out], (by repeat (first | (with_reducible exact Below.refl _ _) | (with_reducible assumption) | (with_reducible refine below_go ?_ (by with_reducible assumption)) | (with_reducible refine below_new ?_ _) | ((with_reducible refine below_put ?_ ?_ _); rotate_left; (dsimp only; omega)) | (with_reducible refine Below.drew ?_) | (with_reducible refine below_dn ?_ _))), (by repeat (first | (with_reducible assumption) | (with_reducible apply Has.set) | ((with_reducible apply Has.other); (case hne => (dsimp only; omega))) | (with_reducible apply Has.alloc) | (with_reducible apply Has.drew) | (with_reducible apply Has.drewN)))⟩
        case measure => simp [intOf]; omega

end Go.Proofs.Ytegdnfmhhigjfaa

namespace Go.Proofs.Ytegdnfmhhigjfaa
open Go.RowKit

theorem results_eqp {x y : Int} (h : x = y) : Ending.returned (.tuple #[.int .i64 x, .bool true]) = .returned (.tuple #[.int .i64 y, .bool true]) := by rw [h]
def prD (b : Nat → Int) (d : Nat) : Int := match d with | 0 => 0 | 1 => prL b 0 4 | _ => prL b 0 4 + prL b 1 4
theorem prD_succ (b : Nat → Int) {d : Nat} (hd : d < 2) : prD b (d + 1) = prD b d + prL b d 4 := by
  rcases (by omega : d = 0 ∨ d = 1) with rfl | rfl
  · simp [prD]
  · rfl
theorem prD_le (b : Nat → Int) {d : Nat} (hd : d ≤ 2) : 0 ≤ prD b d ∧ prD b d ≤ 24 := by
  have h0 := prL_le b 0 4; have h1 := prL_le b 1 4
  rcases (by omega : d = 0 ∨ d = 1 ∨ d = 2) with rfl | rfl | rfl <;> simp only [prD] <;> omega

set_option maxHeartbeats 8000000 in
set_option maxRecDepth 100000 in
theorem equalPairs_any (b : Nat → Int) (w : World) : Calls Try.prog 20 #[.agg #[.int .i64 (b 0), .int .i64 (b 1), .int .i64 (b 2), .int .i64 (b 3), .int .i64 (b 4), .int .i64 (b 5), .int .i64 (b 6), .int .i64 (b 7), .int .i64 (b 8), .int .i64 (b 9), .int .i64 (b 10), .int .i64 (b 11), .int .i64 (b 12), .int .i64 (b 13), .int .i64 (b 14), .int .i64 (b 15)]] w fun e w' => e = .returned (.tuple #[.int .i64 (zr (bdB b) (prS b 4)), .bool (bdB b)]) ∧ Below w.heap.size w w' := by
  cases hb : bdB b
  · simp only [zr_false]
    go_enter Try.func20, Try.ntmps20
    go_upto_region 1 with (fail)
    generalize hW : w.alloc _ = w1
    have hB : Below w.heap.size w w1 := by (rw [← hW]; exact (by repeat (first | (with_reducible exact Below.refl _ _) | (with_reducible assumption) | (with_reducible refine below_go ?_ (by with_reducible assumption)) | (with_reducible refine below_new ?_ _) | ((with_reducible refine below_put ?_ ?_ _); rotate_left; (dsimp only; omega)) | (with_reducible refine Below.drew ?_) | (with_reducible refine below_dn ?_ _))))
    have hsz : Hid (w1.heap.size = w.heap.size + 1) := hide (by rw [← hW]; simp)
    have i0 : Has w1 (w.heap.size) 16 (fun o => .int .i64 (b o)) := by (rw [← hW]; repeat (first | (refine Has.new ?_ rfl; simp; done) | refine Has.alloc ?_ _))
    have ci0 := i0.1; have fi0 := i0.2.1; have zi0 := i0.2.2
    clear hW
    go_wp2_with (first | (go_at_call 27; (with_reducible refine (isBoard_any _ _).mono ?_); rintro e w2 ⟨rfl, hb2⟩; have hB' : Below w.heap.size w w2 := below_go (by repeat (first | (with_reducible exact Below.refl _ _) | (with_reducible assumption) | (with_reducible refine below_go ?_ (by with_reducible assumption)) | (with_reducible refine below_new ?_ _) | ((with_reducible refine below_put ?_ ?_ _); rotate_left; (dsimp only; omega)) | (with_reducible refine Below.drew ?_) | (with_reducible refine below_dn ?_ _))) hb2; have i0' : Has w2 (w.heap.size) 16 _ := Has.call (by repeat (first | (with_reducible assumption) | (with_reducible apply Has.set) | ((with_reducible apply Has.other); (case hne => (dsimp only; omega))) | (with_reducible apply Has.alloc) | (with_reducible apply Has.drew) | (with_reducible apply Has.drewN))) hb2; clear hB hb2; have hB := hB'; clear hB'; (try clear fi0); (try clear zi0); (try clear ci0); clear i0; have i0 := i0'; clear i0'; have ci0 := i0.1; have fi0 := i0.2.1; have zi0 := i0.2.2) | (refine load_Board rfl _ rfl _ _ rfl (by repeat (first | (with_reducible assumption) | (with_reducible apply Has.set) | ((with_reducible apply Has.other); (case hne => (dsimp only; omega))) | (with_reducible apply Has.alloc) | (with_reducible apply Has.drew) | (with_reducible apply Has.drewN))) (by omega) ?_))
    go_ret2
    exact ⟨rfl, (by repeat (first | (with_reducible exact Below.refl _ _) | (with_reducible assumption) | (with_reducible refine below_go ?_ (by with_reducible assumption)) | (with_reducible refine below_new ?_ _) | ((with_reducible refine below_put ?_ ?_ _); rotate_left; (dsimp only; omega)) | (with_reducible refine Below.drew ?_) | (with_reducible refine below_dn ?_ _)))⟩
  · simp only [zr_true]
    go_enter Try.func20, Try.ntmps20
    go_upto_region 1 with (fail)
    generalize hW : w.alloc _ = w1
    have hB : Below w.heap.size w w1 := by (rw [← hW]; exact (by repeat (first | (with_reducible exact Below.refl _ _) | (with_reducible assumption) | (with_reducible refine below_go ?_ (by with_reducible assumption)) | (with_reducible refine below_new ?_ _) | ((with_reducible refine below_put ?_ ?_ _); rotate_left; (dsimp only; omega)) | (with_reducible refine Below.drew ?_) | (with_reducible refine below_dn ?_ _))))
    have hsz : Hid (w1.heap.size = w.heap.size + 1) := hide (by rw [← hW]; simp)
    have i0 : Has w1 (w.heap.size) 16 (fun o => .int .i64 (b o)) := by (rw [← hW]; repeat (first | (refine Has.new ?_ rfl; simp; done) | refine Has.alloc ?_ _))
    have ci0 := i0.1; have fi0 := i0.2.1; have zi0 := i0.2.2
    clear hW
    go_upto_region 5 with (first | (go_at_call 27; (with_reducible refine (isBoard_any _ _).mono ?_); rintro e w2 ⟨rfl, hb2⟩; have hB' : Below w.heap.size w w2 := below_go (by repeat (first | (with_reducible exact Below.refl _ _) | (with_reducible assumption) | (with_reducible refine below_go ?_ (by with_reducible assumption)) | (with_reducible refine below_new ?_ _) | ((with_reducible refine below_put ?_ ?_ _); rotate_left; (dsimp only; omega)) | (with_reducible refine Below.drew ?_) | (with_reducible refine below_dn ?_ _))) hb2; have i0' : Has w2 (w.heap.size) 16 _ := Has.call (by repeat (first | (with_reducible assumption) | (with_reducible apply Has.set) | ((with_reducible apply Has.other); (case hne => (dsimp only; omega))) | (with_reducible apply Has.alloc) | (with_reducible apply Has.drew) | (with_reducible apply Has.drewN))) hb2; clear hB hb2; have hB := hB'; clear hB'; (try clear fi0); (try clear zi0); (try clear ci0); clear i0; have i0 := i0'; clear i0'; have ci0 := i0.1; have fi0 := i0.2.1; have zi0 := i0.2.2) | (refine load_Board rfl _ rfl _ _ rfl (by repeat (first | (with_reducible assumption) | (with_reducible apply Has.set) | ((with_reducible apply Has.other); (case hne => (dsimp only; omega))) | (with_reducible apply Has.alloc) | (with_reducible apply Has.drew) | (with_reducible apply Has.drewN))) (by omega) ?_))
    clear ci0 fi0 zi0 hsz
    go_loopw [4, 12] (fun v4 v12 wr => ∃ d : Nat, d ≤ 2 ∧ v12 = .int .i64 d ∧ v4 = .int .i64 (prD b d) ∧ Below w.heap.size w wr ∧ Has wr w.heap.size 16 (fun o => .int .i64 (b o))) (fun _ i _ => 2 - (intOf i).toNat)
    case atStart => exact ⟨0, by omega, rfl, rfl, hB, i0⟩
    case round =>
      clear hB i0
      obtain ⟨d, hd, rfl, rfl, hB, i0⟩ := hrel
      by_cases h4 : d = 2
      · subst h4
        go_wp2
        go_ret2
        exact ⟨results_eqp (prS_eq b 4).symm, hB⟩
      · have hlt : d < 2 := by omega
        have hd4 : d < 4 := by omega
        have hlti : (d : Int) < 2 := by omega
        have hdr : decide ((d : Int) < 2) = true := decide_eq_true hlti
        obtain ⟨e0, e1⟩ := prD_le b hd
        go_wp2_with fail
        go_loopw [4, 15] (fun v4 v15 wr => ∃ i : Nat, i ≤ 4 ∧ v15 = .int .i64 i ∧ v4 = .int .i64 (prD b d + prL b d i) ∧ Below w.heap.size w wr ∧ Has wr w.heap.size 16 (fun o => .int .i64 (b o))) (fun _ i _ => 4 - (intOf i).toNat)
        case atStart => exact ⟨0, by omega, rfl, by simp [prL], hB, i0⟩
        case round =>
          clear hB i0
          obtain ⟨i, hi, rfl, rfl, hB, i0⟩ := hrel
          by_cases h4 : i = 4
          · subst h4
            go_wp2
            go_roundw
            case rel => exact ⟨d + 1, by omega, by go_num, by rw [prD_succ b hlt], hB, i0⟩
            case measure => simp [intOf]; omega
          · have hlt4 : i < 4 := by omega
            have hlt4i : (i : Int) < 4 := by omega
            have hdr4 : decide ((i : Int) < 4) = true := decide_eq_true hlt4i
            obtain ⟨f0, f1⟩ := prL_le b d i
            have ci0 := i0.1; have fi0 := i0.2.1; have zi0 := i0.2.2
            go_upto_region 11 with (first | (go_at_call 77; (with_reducible refine (line_any _ _ _ hd4 hlt4 _).mono ?_); rintro e w2 ⟨rfl, hb2⟩; have hB' : Below w.heap.size w w2 := below_go (by repeat (first | (with_reducible exact Below.refl _ _) | (with_reducible assumption) | (with_reducible refine below_go ?_ (by with_reducible assumption)) | (with_reducible refine below_new ?_ _) | ((with_reducible refine below_put ?_ ?_ _); rotate_left; (dsimp only; omega)) | (with_reducible refine Below.drew ?_) | (with_reducible refine below_dn ?_ _))) hb2; have i0' : Has w2 (w.heap.size) 16 _ := Has.call (by repeat (first | (with_reducible assumption) | (with_reducible apply Has.set) | ((with_reducible apply Has.other); (case hne => (dsimp only; omega))) | (with_reducible apply Has.alloc) | (with_reducible apply Has.drew) | (with_reducible apply Has.drewN))) hb2; clear hB hb2; have hB := hB'; clear hB'; (try clear fi0); (try clear zi0); (try clear ci0); clear i0; have i0 := i0'; clear i0'; have ci0 := i0.1; have fi0 := i0.2.1; have zi0 := i0.2.2) | (refine load_Board rfl _ rfl _ _ rfl (by repeat (first | (with_reducible assumption) | (with_reducible apply Has.set) | ((with_reducible apply Has.other); (case hne => (dsimp only; omega))) | (with_reducible apply Has.alloc) | (with_reducible apply Has.drew) | (with_reducible apply Has.drewN))) (by omega) ?_))
            have hz3 : w.heap.size < w2.heap.size := zi0
            generalize hW : (World.alloc w2 _) = w1
            have hB' : Below w.heap.size w w1 := by (rw [← hW]; exact (by repeat (first | (with_reducible exact Below.refl _ _) | (with_reducible assumption) | (with_reducible refine below_go ?_ (by with_reducible assumption)) | (with_reducible refine below_new ?_ _) | ((with_reducible refine below_put ?_ ?_ _); rotate_left; (dsimp only; omega)) | (with_reducible refine Below.drew ?_) | (with_reducible refine below_dn ?_ _))))
            have i0' := Has.at hW (B := w.heap.size) (n := 16) (by repeat (first | (with_reducible assumption) | (with_reducible apply Has.set) | ((with_reducible apply Has.other); (case hne => (dsimp only; omega))) | (with_reducible apply Has.alloc) | (with_reducible apply Has.drew) | (with_reducible apply Has.drewN)))
            have k0 := Has.at hW (n := 4) (Has.new' rfl)
            try simp only [World.size_alloc] at k0
            clear hW; clear hB; have hB := hB'; clear hB'; (try clear fi0); (try clear zi0); (try clear ci0); clear i0; have i0 := i0'; clear i0'; have ci0 := i0.1; have fi0 := i0.2.1; have zi0 := i0.2.2; have ck0 := k0.1; have fk0 := k0.2.1; have zk0 := k0.2.2
            generalize hS : w2.heap.size = B4 at *
            clear hS
            have k0 := k0.congr (d := fun o => .int .i64 (lineOf b d i o)) (fun o ho => four_row (lineOf b d i) o ho)
            clear ci0 fi0 zi0 ck0 fk0 zk0
            go_wp2_with fail
            go_loopw [4, 22] (fun v4 v22 wr => ∃ k : Nat, k ≤ 3 ∧ v22 = .int .i64 k ∧ v4 = .int .i64 (prD b d + prL b d i + prT (lineOf b d i) k) ∧ Below w.heap.size w wr ∧ Has wr w.heap.size 16 (fun o => .int .i64 (b o)) ∧ Has wr B4 4 (fun o => .int .i64 (lineOf b d i o))) (fun _ i _ => 3 - (intOf i).toNat)
            case atStart => exact ⟨0, by omega, rfl, by simp [prT], hB, i0, k0⟩
            case round =>
              clear hB i0 k0
              obtain ⟨k, hk, rfl, rfl, hB, i0, k0⟩ := hrel
              by_cases h4 : k = 3
              · subst h4
                go_wp2
                go_roundw
                case rel => exact ⟨i + 1, by omega, by go_num, by rw [prL, Int.add_assoc], hB, i0⟩
                case measure => simp [intOf]; omega
              · have hlt3 : k < 3 := by omega
                obtain ⟨p0, p1⟩ := prT_le (lineOf b d i) k
                have a1 : (0 : Int) ≤ k := by omega
                have a2 : (k : Int) < 3 := by omega
                have s1 : IntKind.i64.wrap ((k : Int) + 1) = (k : Int) + 1 := IntWalk.i64_in _ (by omega)
                have s2 : ((k : Int) + 1).toNat = k + 1 := by omega
                have q1 : wr.cell? ⟨B4, k, none⟩ = some (.int .i64 (lineOf b d i k)) := k0.1 _ (by omega)
                have q2 : wr.cell? ⟨B4, k + 1, none⟩ = some (.int .i64 (lineOf b d i (k + 1))) := k0.1 _ (by omega)
                by_cases he : lineOf b d i k = lineOf b d i (k + 1)
                · have he' : (lineOf b d i k == lineOf b d i (k + 1)) = true := by simpa using he
                  have HE := hide he
                  clear he
                  cases hi : inB (lineOf b d i k) 1 16
                  · have HI := hide hi
                    go_wp2_with fail
                    go_quiet ((go_at_call 78; exact Calls.quiet_of_eq (in_any _ _ _ _)))
                    clear s1 s2
                    go_wp2
                    go_roundw
                    case rel => exact ⟨k + 1, by omega, by go_num, by rw [prT_out HI.out], (by repeat (first | (with_reducible exact Below.refl _ _) | (with_reducible assumption) | (with_reducible refine below_go ?_ (by with_reducible assumption)) | (with_reducible refine below_new ?_ _) | ((with_reducible refine below_put ?_ ?_ _); rotate_left; (dsimp only; omega)) | (with_reducible refine Below.drew ?_) | (with_reducible refine below_dn ?_ _))), (by repeat (first | (with_reducible assumption) | (with_reducible apply Has.set) | ((with_reducible apply Has.other); (case hne => (dsimp only; omega))) | (with_reducible apply Has.alloc) | (with_reducible apply Has.drew) | (with_reducible apply Has.drewN))), (by repeat (first | (with_reducible assumption) | (with_reducible apply Has.set) | ((with_reducible apply Has.other); (case hne => (dsimp only; omega))) | (with_reducible apply Has.alloc) | (with_reducible apply Has.drew) | (with_reducible apply Has.drewN)))⟩
                    case measure => simp [intOf]; omega
                  · have HI := hide hi
                    go_wp2_with fail
                    go_quiet ((go_at_call 78; exact Calls.quiet_of_eq (in_any _ _ _ _)))
                    clear s1 s2
                    go_wp2
                    go_roundw
                    case rel => exact ⟨k + 1, by omega, by go_num, by rw [prT_in HE.out HI.out, Int.add_assoc _ _ 1], (by repeat (first | (with_reducible exact Below.refl _ _) | (with_reducible assumption) | (with_reducible refine below_go ?_ (by with_reducible assumption)) | (with_reducible refine below_new ?_ _) | ((with_reducible refine below_put ?_ ?_ _); rotate_left; (dsimp only; omega)) | (with_reducible refine Below.drew ?_) | (with_reducible refine below_dn ?_ _))), (by repeat (first | (with_reducible assumption) | (with_reducible apply Has.set) | ((with_reducible apply Has.other); (case hne => (dsimp only; omega))) | (with_reducible apply Has.alloc) | (with_reducible apply Has.drew) | (with_reducible apply Has.drewN))), (by repeat (first | (with_reducible assumption) | (with_reducible apply Has.set) | ((with_reducible apply Has.other); (case hne => (dsimp only; omega))) | (with_reducible apply Has.alloc) | (with_reducible apply Has.drew) | (with_reducible apply Has.drewN)))⟩
                    case measure => simp [intOf]; omega
                · have he' : (lineOf b d i k == lineOf b d i (k + 1)) = false := by simpa using he
                  have HE := hide he
                  clear he
                  go_wp2_with fail
                  go_quiet (fail)
                  clear s1 s2
                  go_wp2
                  go_roundw
                  case rel => exact ⟨k + 1, by omega, by go_num, by rw [prT_ne HE.out], (by repeat (first | (with_reducible exact Below.refl _ _) | (with_reducible assumption) | (with_reducible refine below_go ?_ (by with_reducible assumption)) | (with_reducible refine below_new ?_ _) | ((with_reducible refine below_put ?_ ?_ _); rotate_left; (dsimp only; omega)) | (with_reducible refine Below.drew ?_) | (with_reducible refine below_dn ?_ _))), (by repeat (first | (with_reducible assumption) | (with_reducible apply Has.set) | ((with_reducible apply Has.other); (case hne => (dsimp only; omega))) | (with_reducible apply Has.alloc) | (with_reducible apply Has.drew) | (with_reducible apply Has.drewN))), (by repeat (first | (with_reducible assumption) | (with_reducible apply Has.set) | ((with_reducible apply Has.other); (case hne => (dsimp only; omega))) | (with_reducible apply Has.alloc) | (with_reducible apply Has.drew) | (with_reducible apply Has.drewN)))⟩
                  case measure => simp [intOf]; omega

end Go.Proofs.Ytegdnfmhhigjfaa

namespace Go.Proofs.Ytegdnfmhhigjfaa

def turnR (r : Nat → Int) : Nat → Int := fun k => r (3 - k)
theorem turnR_in {r : Nat → Int} (hr : ∀ i, i < 4 → 0 ≤ r i ∧ r i ≤ 17) : ∀ i, i < 4 → 0 ≤ turnR r i ∧ turnR r i ≤ 17 := fun i _ => hr (3 - i) (by omega)
theorem tilesL_turn (r : Nat → Int) : tilesL (turnR r) = (tilesL r).reverse := by
  show ([r 3, r 2, r 1, r 0] : List Int).filter _ = ((([r 0, r 1, r 2, r 3] : List Int).filter _)).reverse
  rw [← List.filter_reverse]; rfl
theorem SR.slid_congr {r q : Nat → Int} (h : ∀ i, i < 4 → r i = q i) : SR.slid r = SR.slid q := by
  simp only [SR.slid, SR.upto, h 0 (by omega), h 1 (by omega), h 2 (by omega), h 3 (by omega)]
theorem turn_turn (r : Nat → Int) : SR.slid (turnR (turnR r)) = SR.slid r := SR.slid_congr fun i hi => by
  show r (3 - (3 - i)) = r i
  congr 1; omega

/-- No two equal tiles stand side by side that could merge. -/
def noAdj (l : List Int) (n : Nat) : Prop := ∀ j, j + 1 < n → l.getD j 0 = l.getD (j + 1) 0 → 17 ≤ l.getD (j + 1) 0
theorem SR.full_iff {l : List Int} (h : ∀ t, t ∈ l → 1 ≤ t ∧ t ≤ 17) : ∀ k, k ≤ l.length → ((SR.tiles l k).n = k ↔ noAdj l k)
  | 0, _ => ⟨fun _ j hj => absurd hj (Nat.not_lt_zero _), fun _ => rfl⟩
  | k + 1, hk => by
    have ih := SR.full_iff h k (by omega)
    have ok := SR.ok_tiles h k (by omega)
    rw [SR.tiles_succ (by omega)]
    unfold SR.step
    by_cases hm : (SR.tiles l k).mer (l.getD k 0) = true
    · rw [if_pos hm]
      simp only [SR.merged]
      have := ok.n
      constructor
      · intro h1; omega
      · intro h1
        obtain ⟨m1, m2, m3, m4⟩ := SR.mer_true hm
        have h2 := ih.2 fun j hj => h1 j (by omega)
        have h3 := (SR.tiles_full h k (by omega) h2).1 (k - 1) (by omega)
        rw [h2] at m2
        have h4 := h1 (k - 1) (by omega) (by rw [← h3, m2]; congr 1; omega)
        rw [show k - 1 + 1 = k by omega] at h4
        omega
    · rw [if_neg hm]
      simp only [SR.pushed]
      constructor
      · intro h1 j hj hjj
        have h2 : (SR.tiles l k).n = k := by omega
        rcases Nat.lt_or_ge (j + 1) k with h5 | h5
        · exact ih.1 h2 j h5 hjj
        · obtain rfl : k = j + 1 := by omega
          have h3 := SR.tiles_full h (j + 1) (by omega) h2
          have h4 := h3.1 j (by omega)
          obtain ⟨t, ht⟩ : ∃ t, t = l.getD (j + 1) 0 := ⟨_, rfl⟩
          rw [← ht] at hm hjj ⊢
          simp only [SR.mer, h2, Nat.add_sub_cancel, h4, h3.2.1 j, hjj] at hm
          simp at hm
          omega
      · intro h1
        have := ih.2 fun j hj => h1 j (by omega)
        omega
theorem noAdj_reverse {l : List Int} (h : noAdj l l.length) : noAdj l.reverse l.reverse.length := by
  intro j hj he
  simp only [List.length_reverse] at hj
  have g : ∀ i, i < l.length → l.reverse.getD i 0 = l.getD (l.length - 1 - i) 0 := fun i hi => by
    simp only [List.getD]
    rw [List.getElem?_reverse hi]
  rw [g j (by omega), g (j + 1) (by omega)] at he
  rw [g (j + 1) (by omega)]
  have h2 := h (l.length - 1 - (j + 1)) (by omega)
  rw [show l.length - 1 - (j + 1) + 1 = l.length - 1 - j by omega] at h2
  have h3 := h2 he.symm
  omega
theorem score_noAdj {r : Nat → Int} (hr : ∀ i, i < 4 → 0 ≤ r i ∧ r i ≤ 17) : (SR.slid r).score = 0 ↔ noAdj (tilesL r) (tilesL r).length := by
  rw [slid_score_zero hr, SR.slid_tiles]
  exact SR.full_iff (tilesL_pos r hr) _ (Nat.le_refl _)
theorem score_turn {r : Nat → Int} (hr : ∀ i, i < 4 → 0 ≤ r i ∧ r i ≤ 17) : (SR.slid (turnR r)).score = 0 ↔ (SR.slid r).score = 0 := by
  rw [score_noAdj hr, score_noAdj (turnR_in hr), tilesL_turn]
  exact ⟨fun h => by have := noAdj_reverse h; simpa using this, noAdj_reverse⟩

/-- The greatest sum of scores of slides of a row. -/
def bestL : Nat → (Nat → Int) → Int
  | 0, _ => 0
  | f + 1, r => if (SR.slid r).score = 0 then 0 else max ((SR.slid r).score + bestL f (SR.slid r).out) ((SR.slid (turnR r)).score + bestL f (SR.slid (turnR r)).out)
theorem bestL_turn {r : Nat → Int} (hr : ∀ i, i < 4 → 0 ≤ r i ∧ r i ≤ 17) : ∀ f, bestL f (turnR r) = bestL f r
  | 0 => rfl
  | f + 1 => by
    simp only [bestL, turn_turn, score_turn hr]
    rw [Int.max_comm]
theorem bestL_le {r : Nat → Int} (hr : ∀ i, i < 4 → 0 ≤ r i ∧ r i ≤ 17) : ∀ f, 0 ≤ bestL f r ∧ bestL f r ≤ 1048576 * f
  | 0 => ⟨Int.le_refl _, Int.le_refl _⟩
  | f + 1 => by
    have o1 := SR.slid_ok hr
    have o2 := SR.slid_ok (turnR_in hr)
    have b1 := bestL_le (slid_in' hr) f
    have b2 := bestL_le (slid_in' (turnR_in hr)) f
    have := o1.lo; have := o1.hi; have := o2.lo; have := o2.hi
    simp only [bestL]
    split
    · omega
    · omega
theorem slid_less {r : Nat → Int} (hr : ∀ i, i < 4 → 0 ≤ r i ∧ r i ≤ 17) (h : (SR.slid r).score ≠ 0) : (tilesL (SR.slid r).out).length < (tilesL r).length := by
  rw [slid_len hr]
  have := SR.slid_n_le hr
  have h2 : (SR.slid r).n ≠ (tilesL r).length := fun e => h ((slid_score_zero hr).2 e)
  omega

/-- Whether a row slides alike to both of its ends, as the reference tells it. -/
def symB (r : Nat → Int) : Bool :=
  decide ((tilesL (SR.slid r).out).length = (tilesL (SR.slid (turnR r)).out).length) &&
    decide (∀ k, k < (tilesL (SR.slid (turnR r)).out).length → (SR.slid r).out k = (SR.slid (turnR r)).out ((tilesL (SR.slid (turnR r)).out).length - 1 - k))

end Go.Proofs.Ytegdnfmhhigjfaa

namespace Go.Proofs.Ytegdnfmhhigjfaa

theorem formB_in {b : Nat → Int} {k : Nat} (hb : In17 b 16) (hk : k < 8) : In17 (formB b k) 16 := fun i hi => hb _ (srcP_lt k hk i hi)
theorem formB_home {b : Nat → Int} {k : Nat} (hk : k < 8) : eqB (formB (formB b k) (bkP k)) b = true := by
  have h := formB_form (b := b) hk (bkP_lt k hk)
  rw [(bh_bk k hk).1] at h
  exact h
theorem smT_form (b : Nat → Int) {k : Nat} (hk : k < 8) : smT (formB b k) 16 = smT b 16 := by
  rcases k8 hk with rfl | rfl | rfl | rfl | rfl | rfl | rfl | rfl <;> simp [smT, formB, srcP, rotS, mirS] <;> omega
theorem mnB_form (b : Nat → Int) {k : Nat} (hk : k < 8) : mnB (formB b k) 16 = mnB b 16 := by
  rcases k8 hk with rfl | rfl | rfl | rfl | rfl | rfl | rfl | rfl <;> simp [mnB, formB, srcP, rotS, mirS] <;> omega

/-- One pair. -/
def pq (x y : Int) : Int := if x = y ∧ 1 ≤ x ∧ x ≤ 16 then 1 else 0
theorem pq_comm (x y : Int) : pq x y = pq y x := by
  unfold pq
  by_cases h : x = y
  · subst h; rfl
  · rw [if_neg (fun hh => h hh.1), if_neg (fun hh => h hh.1.symm)]
theorem pq_ord (b : Nat → Int) {i j : Nat} (_ : j < i) : pq (b i) (b j) = pq (b j) (b i) := pq_comm _ _
theorem prT_pq (r : Nat → Int) : prT r 3 = pq (r 0) (r 1) + pq (r 1) (r 2) + pq (r 2) (r 3) := by
  unfold pq
  show 0 + (if r 0 = r 1 ∧ 1 ≤ r 0 ∧ r 0 ≤ 16 then (1 : Int) else 0) + (if r 1 = r 2 ∧ 1 ≤ r 1 ∧ r 1 ≤ 16 then (1 : Int) else 0) + (if r 2 = r 3 ∧ 1 ≤ r 2 ∧ r 2 ≤ 16 then (1 : Int) else 0) = _
  rw [Int.zero_add]
theorem prS_form (b : Nat → Int) {k : Nat} (hk : k < 8) : prS (formB b k) 4 = prS b 4 := by
  have u : ∀ c : Nat → Int, prS c 4 = pq (c 0) (c 1) + pq (c 1) (c 2) + pq (c 2) (c 3) + (pq (c 0) (c 4) + pq (c 4) (c 8) + pq (c 8) (c 12))
      + (pq (c 4) (c 5) + pq (c 5) (c 6) + pq (c 6) (c 7) + (pq (c 1) (c 5) + pq (c 5) (c 9) + pq (c 9) (c 13)))
      + (pq (c 8) (c 9) + pq (c 9) (c 10) + pq (c 10) (c 11) + (pq (c 2) (c 6) + pq (c 6) (c 10) + pq (c 10) (c 14)))
      + (pq (c 12) (c 13) + pq (c 13) (c 14) + pq (c 14) (c 15) + (pq (c 3) (c 7) + pq (c 7) (c 11) + pq (c 11) (c 15))) := by
    intro c
    show 0 + prT (lineOf c 0 0) 3 + prT (lineOf c 1 0) 3 + prT (lineOf c 0 1) 3 + prT (lineOf c 1 1) 3 + prT (lineOf c 0 2) 3 + prT (lineOf c 1 2) 3 + prT (lineOf c 0 3) 3 + prT (lineOf c 1 3) 3 = _
    simp only [prT_pq, lineOf, lineAt, Nat.reduceMul, Nat.reduceAdd]; omega
  rw [u, u]
  rcases k8 hk with rfl | rfl | rfl | rfl | rfl | rfl | rfl | rfl <;> simp [formB, srcP, rotS, mirS, pq_ord] <;> omega

/-- Which line of the board line i of its form f is, in the direction that form f makes of d. -/
def lpP (f d i : Nat) : Nat := lnI d (srcP f (lineAt (sdP f d) i 0))
theorem lpP_at : ∀ f, f < 8 → ∀ d, d < 4 → ∀ i, i < 4 → ∀ k, k < 4 → srcP f (lineAt (sdP f d) i k) = lineAt d (lpP f d i) k := by decide +kernel
theorem lpP_or : ∀ f, f < 8 → ∀ d, d < 4 → (∀ i, i < 4 → lpP f d i = i) ∨ (∀ i, i < 4 → lpP f d i = 3 - i) := by decide +kernel
theorem lpP_lt {f d i : Nat} (hf : f < 8) (hd : d < 4) (hi : i < 4) : lpP f d i < 4 := by
  rcases lpP_or f hf d hd with h | h <;> rw [h i hi] <;> omega
theorem sdP_lt {f d : Nat} (hf : f < 8) (hd : d < 4) : sdP f d < 4 := (sd_first f hf d hd).1
theorem slid_form (b : Nat → Int) {f d i : Nat} (hf : f < 8) (hd : d < 4) (hi : i < 4) : SR.slid (lineOf (formB b f) (sdP f d) i) = SR.slid (lineOf b d (lpP f d i)) :=
  SR.slid_congr fun k hk => by
    show b (srcP f (lineAt (sdP f d) i k)) = b (lineAt d (lpP f d i) k)
    rw [lpP_at f hf d hd i hi k hk]
theorem slB_form (b : Nat → Int) {f d : Nat} (hf : f < 8) (hd : d < 4) : eqB (formB (slB b d) f) (slB (formB b f) (sdP f d)) = true := by
  refine eqB_true.2 fun p hp => ?_
  have hs := sdP_lt hf hd
  have hi := @lnI_lt (sdP f d) p hp
  have hk : lnK (sdP f d) p < 4 := by rcases @lnK_lt (sdP f d) p with h | h <;> omega
  have hl := lpP_lt hf hd hi
  have e := lpP_at f hf d hd _ hi _ hk
  rw [at_lnIK hs hp] at e
  show (SR.slid (lineOf b d (lnI d (srcP f p)))).out (lnK d (srcP f p)) = (SR.slid (lineOf (formB b f) (sdP f d) (lnI (sdP f d) p))).out (lnK (sdP f d) p)
  rw [slid_form b hf hd hi, e, lnI_at hd hl hk, lnK_at hd hl hk]
theorem scTo_form (b : Nat → Int) {f d : Nat} (hf : f < 8) (hd : d < 4) : scTo (formB b f) (sdP f d) 4 = scTo b d 4 := by
  simp only [scTo]
  rw [slid_form b hf hd (by omega : 0 < 4), slid_form b hf hd (by omega : 1 < 4), slid_form b hf hd (by omega : 2 < 4), slid_form b hf hd (by omega : 3 < 4)]
  rcases lpP_or f hf d hd with h | h
  · rw [h 0 (by omega), h 1 (by omega), h 2 (by omega), h 3 (by omega)]
  · rw [h 0 (by omega), h 1 (by omega), h 2 (by omega), h 3 (by omega)]; simp only [Nat.sub_zero, Nat.reduceSub]; omega
theorem mgTo_form (b : Nat → Int) {f d : Nat} (hf : f < 8) (hd : d < 4) : mgTo (formB b f) (sdP f d) 4 = mgTo b d 4 := by
  simp only [mgTo]
  rw [slid_form b hf hd (by omega : 0 < 4), slid_form b hf hd (by omega : 1 < 4), slid_form b hf hd (by omega : 2 < 4), slid_form b hf hd (by omega : 3 < 4)]
  rcases lpP_or f hf d hd with h | h
  · rw [h 0 (by omega), h 1 (by omega), h 2 (by omega), h 3 (by omega)]
  · rw [h 0 (by omega), h 1 (by omega), h 2 (by omega), h 3 (by omega)]; simp only [Nat.sub_zero, Nat.reduceSub]; omega

end Go.Proofs.Ytegdnfmhhigjfaa

namespace Go.Proofs.Ytegdnfmhhigjfaa
open Go.RowKit

theorem has_fr {a w3 : World} {B n : Nat} {c : Nat → Value} {ob : Obj} (h : Has a B n c) (ho : Only a.heap.size (a.alloc ob) w3) : Has w3 B n c := (h.alloc ob).only ho (by have := h.2.2; omega)
theorem below_fr {W a w3 : World} {ob : Obj} (h : Below W.heap.size W a) (ho : Only a.heap.size (a.alloc ob) w3) : Below W.heap.size W w3 := below_only (below_new h ob) ho h.size
theorem load_BoardF {ops : Array Oper} {rest : List Oper} {op : Oper} {a : Act} {w : World} {Q : Exit → Act → World → Prop} (hgd : op.guard = none) (x : Operand) (ho : op.op = .load 27 x)
    (b : Nat) (f : Nat → Int) (hx : a.eval x = .pointer (some ⟨b, 0, none⟩)) (hH : Has w b 16 (fun o => .int .i64 (f o)))
    (h : wpList Try.prog ops Q rest (a.put op.dst (.agg #[.int .i64 (f 0), .int .i64 (f 1), .int .i64 (f 2), .int .i64 (f 3), .int .i64 (f 4), .int .i64 (f 5), .int .i64 (f 6), .int .i64 (f 7), .int .i64 (f 8), .int .i64 (f 9), .int .i64 (f 10), .int .i64 (f 11), .int .i64 (f 12), .int .i64 (f 13), .int .i64 (f 14), .int .i64 (f 15)])) w) : wpList Try.prog ops Q (op :: rest) a w :=
  load_Board hgd x ho b 0 hx hH (by omega) h
theorem wpList_wanted {P : Program} {ops : Array Oper} {rest : List Oper} {o : Oper} {a : Act} {w : World} {Q : Exit → Act → World → Prop} (hw : Region.wanted o (yielded ops a.tmps) = true)
    (h : ∀ K : Act → World → Prop, (∀ a w, wpList P ops Q rest a w → K a w) → o.wp P a w K Q) : wpList P ops Q (o :: rest) a w :=
  wpList_step fun K hK => by rw [if_pos hw]; exact h K hK
theorem load_BoardG {ops : Array Oper} {rest : List Oper} {op : Oper} {a : Act} {w : World} {Q : Exit → Act → World → Prop} (x : Operand) (ho : op.op = .load 27 x)
    (b : Nat) (f : Nat → Int) (hx : a.eval x = .pointer (some ⟨b, 0, none⟩)) (hH : Has w b 16 (fun o => .int .i64 (f o))) (hw : Region.wanted op (yielded ops a.tmps) = true)
    (h : wpList Try.prog ops Q rest (a.put op.dst (.agg #[.int .i64 (f 0), .int .i64 (f 1), .int .i64 (f 2), .int .i64 (f 3), .int .i64 (f 4), .int .i64 (f 5), .int .i64 (f 6), .int .i64 (f 7), .int .i64 (f 8), .int .i64 (f 9), .int .i64 (f 10), .int .i64 (f 11), .int .i64 (f 12), .int .i64 (f 13), .int .i64 (f 14), .int .i64 (f 15)])) w) : wpList Try.prog ops Q (op :: rest) a w :=
  wpList_wanted hw fun _ hK => wp_load_mid 27 x ho b 0 hx [.int .i64 (f 0), .int .i64 (f 1), .int .i64 (f 2), .int .i64 (f 3), .int .i64 (f 4), .int .i64 (f 5), .int .i64 (f 6), .int .i64 (f 7), .int .i64 (f 8), .int .i64 (f 9), .int .i64 (f 10), .int .i64 (f 11), .int .i64 (f 12), .int .i64 (f 13), .int .i64 (f 14), .int .i64 (f 15)] _ (hH.range 16 (by omega)) Try.underlying27 rfl (by kernel_rfl) (hK _ _ h)
theorem neq_B {a b : Nat → Int} (h : eqB a b = true) (w : World) : (binOp .neq 27 (.agg #[.int .i64 (a 0), .int .i64 (a 1), .int .i64 (a 2), .int .i64 (a 3), .int .i64 (a 4), .int .i64 (a 5), .int .i64 (a 6), .int .i64 (a 7), .int .i64 (a 8), .int .i64 (a 9), .int .i64 (a 10), .int .i64 (a 11), .int .i64 (a 12), .int .i64 (a 13), .int .i64 (a 14), .int .i64 (a 15)]) (.agg #[.int .i64 (b 0), .int .i64 (b 1), .int .i64 (b 2), .int .i64 (b 3), .int .i64 (b 4), .int .i64 (b 5), .int .i64 (b 6), .int .i64 (b 7), .int .i64 (b 8), .int .i64 (b 9), .int .i64 (b 10), .int .i64 (b 11), .int .i64 (b 12), .int .i64 (b 13), .int .i64 (b 14), .int .i64 (b 15)])).run Try.prog w = .ok (.bool false) w := by
  rw [run_neq_Board, h]; rfl

end Go.Proofs.Ytegdnfmhhigjfaa

namespace Go.Proofs.Ytegdnfmhhigjfaa
theorem form_in {k : Nat} (h : k < 8) : inB (k : Int) 0 7 = true := by simp [inB]; omega
theorem dir_in {k : Nat} (h : k < 4) : inB (k : Int) 0 3 = true := by simp [inB]; omega
theorem bd_in17 {b : Nat → Int} (h : In17 b 16) : bdB b = true := by
  have g : ∀ i, i < 16 → inB (b i) 0 17 = true := fun i hi => by have := h i hi; simp [inB, this]
  simp [bdB, rowB, g]
theorem bdB_congr {a b : Nat → Int} (h : eqB a b = true) : bdB a = bdB b := by
  have h := eqB_true.1 h
  simp only [bdB, h 0 (by omega), h 1 (by omega), h 2 (by omega), h 3 (by omega), h 4 (by omega), h 5 (by omega), h 6 (by omega), h 7 (by omega), h 8 (by omega), h 9 (by omega), h 10 (by omega), h 11 (by omega), h 12 (by omega), h 13 (by omega), h 14 (by omega), h 15 (by omega)]
end Go.Proofs.Ytegdnfmhhigjfaa
