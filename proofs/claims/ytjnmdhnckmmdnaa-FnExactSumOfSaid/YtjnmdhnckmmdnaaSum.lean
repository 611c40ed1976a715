/-
  Contracts: the sum of the worths, the program's and the reference's; SumOf.
-/
import Derived.Test.YtjnmdhnckmmdnaaCellLoop
import Derived.Test.YtjnmdhnckmmdnaaManyMath
import Derived.Test.YtjnmdhnckmmdnaaWorth
import Derived.Test.YtjnmdhnckmmdnaaBoard2
import Derived.Test.YtjnmdhnckmmdnaaDir
namespace Go.Proofs.Ytjnmdhnckmmdnaa
open Go.RowKit

set_option maxHeartbeats 4000000 in
set_option maxRecDepth 100000 in
theorem sum_any (b : Nat → Int) (hb : In17 b 16) (w : World) :
    Calls Try.prog 95 #[.agg #[.int .i64 (b 0), .int .i64 (b 1), .int .i64 (b 2), .int .i64 (b 3), .int .i64 (b 4), .int .i64 (b 5), .int .i64 (b 6), .int .i64 (b 7), .int .i64 (b 8), .int .i64 (b 9), .int .i64 (b 10), .int .i64 (b 11), .int .i64 (b 12), .int .i64 (b 13), .int .i64 (b 14), .int .i64 (b 15)]] w fun e w' => e = .returned (.int .i64 (smT b 16)) ∧ Below w.heap.size w w' := by
  have HB := hide hb
  clear hb
  go_enter Try.func95, Try.ntmps95
  go_upto_region 2 with (fail)
  generalize hW : w.alloc _ = w1
  have hB : Below w.heap.size w w1 := by (rw [← hW]; exact (by repeat (first | (with_reducible exact Below.refl _ _) | (with_reducible assumption) | (with_reducible refine below_go ?_ (by with_reducible assumption)) | (with_reducible refine below_new ?_ _) | ((with_reducible refine below_put ?_ ?_ _); rotate_left; (dsimp only; omega)) | (with_reducible refine Below.drew ?_) | (with_reducible refine below_dn ?_ _))))
  have hsz : Hid (w1.heap.size = w.heap.size + 1) := hide (by rw [← hW]; simp)
  have i0 : Has w1 (w.heap.size) 16 (fun o => .int .i64 (b o)) := by (rw [← hW]; repeat (first | (refine Has.new ?_ rfl; simp; done) | refine Has.alloc ?_ _))
  have ci0 := i0.1; have fi0 := i0.2.1; have zi0 := i0.2.2
  clear hW
  go_wp2_with (go_at_call 92; (with_reducible refine (cells_any _).mono ?_); rintro e w2 ⟨g, cap, rfl, hg, hcap, iC, hb2⟩; have hB' : Below w.heap.size w w2 := below_go (by repeat (first | (with_reducible exact Below.refl _ _) | (with_reducible assumption) | (with_reducible refine below_go ?_ (by with_reducible assumption)) | (with_reducible refine below_new ?_ _) | ((with_reducible refine below_put ?_ ?_ _); rotate_left; (dsimp only; omega)) | (with_reducible refine Below.drew ?_) | (with_reducible refine below_dn ?_ _))) hb2; have i0' : Has w2 (w.heap.size) 16 _ := Has.call (by repeat (first | (with_reducible assumption) | (with_reducible apply Has.set) | ((with_reducible apply Has.other); (case hne => (dsimp only; omega))) | (with_reducible apply Has.alloc) | (with_reducible apply Has.drew) | (with_reducible apply Has.drewN))) hb2; clear hB hb2; have hB := hB'; clear hB'; (try clear fi0); (try clear zi0); (try clear ci0); clear i0; have i0 := i0'; clear i0'; have ci0 := i0.1; have fi0 := i0.2.1; have zi0 := i0.2.2)
  have hg1 : w.heap.size < g := by have := hsz.out; omega
  clear ci0 fi0 zi0 hsz
  go_loopw [3, 8] (fun v3 v8 wr => ∃ k : Nat, k ≤ 16 ∧ v8 = .int .i64 k ∧ v3 = .int .i64 (smT b k) ∧ Below w.heap.size w wr ∧ Has wr w.heap.size 16 (fun o => .int .i64 (b o)) ∧ Has wr g 32 (fun p => .int .i64 (cellC p))) (fun _ i _ => 16 - (intOf i).toNat)
  case atStart => exact ⟨0, by omega, rfl, rfl, hB, i0, iC⟩
  case round =>
    clear hB i0 iC
    obtain ⟨k, hk, rfl, rfl, hB, i0, iC⟩ := hrel
    by_cases h4 : k = 16
    · subst h4
      go_wp2
      go_ret
      exact ⟨rfl, hB⟩
    · have hlt : k < 16 := by omega
      obtain ⟨x, y, hx0, hx3, hy0, hy3, _, hxy, q1, q2⟩ := cell_xy iC hlt
      obtain ⟨hb0, hb1⟩ := HB.out k hlt
      obtain ⟨s0, s1⟩ := smT_le HB.out k hk
      obtain ⟨t0, t1⟩ := wth_le hb1
      have t0' : 0 ≤ wz (b k) := t0
      have t1' : wz (b k) ≤ 262144 := t1
      have ci0 := i0.1; have fi0 := i0.2.1; have zi0 := i0.2.2
      go_wp2_with (first | (go_at_call 93; (with_reducible refine (at_xy _ _ _ _ hx0 hx3 hy0 hy3 hxy _).mono ?_); rintro e w2 ⟨rfl, hb2⟩; have hB' : Below w.heap.size w w2 := below_go (by repeat (first | (with_reducible exact Below.refl _ _) | (with_reducible assumption) | (with_reducible refine below_go ?_ (by with_reducible assumption)) | (with_reducible refine below_new ?_ _) | ((with_reducible refine below_put ?_ ?_ _); rotate_left; (dsimp only; omega)) | (with_reducible refine Below.drew ?_) | (with_reducible refine below_dn ?_ _))) hb2; have i0' : Has w2 (w.heap.size) 16 _ := Has.call (by repeat (first | (with_reducible assumption) | (with_reducible apply Has.set) | ((with_reducible apply Has.other); (case hne => (dsimp only; omega))) | (with_reducible apply Has.alloc) | (with_reducible apply Has.drew) | (with_reducible apply Has.drewN))) hb2; have iC' : Has w2 (g) 32 _ := Has.call (by repeat (first | (with_reducible assumption) | (with_reducible apply Has.set) | ((with_reducible apply Has.other); (case hne => (dsimp only; omega))) | (with_reducible apply Has.alloc) | (with_reducible apply Has.drew) | (with_reducible apply Has.drewN))) hb2; clear hB hb2; have hB := hB'; clear hB'; (try clear fi0); (try clear zi0); (try clear ci0); clear i0; have i0 := i0'; clear i0'; have ci0 := i0.1; have fi0 := i0.2.1; have zi0 := i0.2.2; (try clear fiC); (try clear ziC); (try clear ciC); clear iC; have iC := iC'; clear iC'; have ciC := iC.1; have fiC := iC.2.1; have ziC := iC.2.2) | (go_at_call 139; refine (worth_any _ hb0 (by omega) _).mono ?_; rintro e w1 ⟨rfl, rfl⟩) | (refine load_int rfl _ rfl _ _ rfl (by repeat (first | (with_reducible assumption) | (with_reducible apply Has.set) | ((with_reducible apply Has.other); (case hne => (dsimp only; omega))) | (with_reducible apply Has.alloc) | (with_reducible apply Has.drew) | (with_reducible apply Has.drewN))) (by omega) ?_))
      go_roundw
      case rel => exact ⟨k + 1, by omega, by go_num, rfl, hB, i0, iC⟩
      case measure => simp [intOf]; omega

end Go.Proofs.Ytjnmdhnckmmdnaa
