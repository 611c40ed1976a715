/-
  Contract: whether a board comes before another one, the reference's.
-/
import Derived.Test.YtmjehagmgifchaaLess1
import Derived.Test.YtmjehagmgifchaaBoard2
namespace Go.Proofs.Ytmjehagmgifchaa
open Go.RowKit

theorem ltB_first {f h : Nat → Int} {k : Nat} (hk : k < 16) (hall : ∀ p, p < k → f p = h p) (hne : f k ≠ h k) : ltB f h = decide (f k < h k) := by
  rw [← cmB_lt, cmB_first hk hall hne]
  unfold cmI
  by_cases h1 : f k < h k
  · simp [h1]
  · simp [h1]; split <;> omega
theorem ltB_all {f h : Nat → Int} (hall : ∀ p, p < 16 → f p = h p) : ltB f h = false := ltB_irrefl (eqB_true.2 hall)

set_option maxHeartbeats 8000000 in
set_option maxRecDepth 100000 in
theorem l2Before_any (b d : Nat → Int) (w : World) : Calls Try.prog 141 #[.agg #[.int .i64 (b 0), .int .i64 (b 1), .int .i64 (b 2), .int .i64 (b 3), .int .i64 (b 4), .int .i64 (b 5), .int .i64 (b 6), .int .i64 (b 7), .int .i64 (b 8), .int .i64 (b 9), .int .i64 (b 10), .int .i64 (b 11), .int .i64 (b 12), .int .i64 (b 13), .int .i64 (b 14), .int .i64 (b 15)], .agg #[.int .i64 (d 0), .int .i64 (d 1), .int .i64 (d 2), .int .i64 (d 3), .int .i64 (d 4), .int .i64 (d 5), .int .i64 (d 6), .int .i64 (d 7), .int .i64 (d 8), .int .i64 (d 9), .int .i64 (d 10), .int .i64 (d 11), .int .i64 (d 12), .int .i64 (d 13), .int .i64 (d 14), .int .i64 (d 15)]] w fun e w' => e = .returned (.bool (ltB b d)) ∧ Below w.heap.size w w' := by
  go_enter Try.func141, Try.ntmps141
  go_upto_region 1 with (fail)
  generalize hW : (w.alloc _).alloc _ = w1
  have hB : Below w.heap.size w w1 := by (rw [← hW]; exact (by repeat (first | (with_reducible exact Below.refl _ _) | (with_reducible assumption) | (with_reducible refine below_go ?_ (by with_reducible assumption)) | (with_reducible refine below_new ?_ _) | ((with_reducible refine below_put ?_ ?_ _); rotate_left; (dsimp only; omega)) | (with_reducible refine Below.drew ?_) | (with_reducible refine below_dn ?_ _))))
  have hsz : Hid (w1.heap.size = w.heap.size + 1 + 1) := hide (by rw [← hW]; simp)
  have i0 : Has w1 (w.heap.size) 16 (fun o => .int .i64 (b o)) := by (rw [← hW]; repeat (first | (refine Has.new ?_ rfl; simp; done) | refine Has.alloc ?_ _))
  have ci0 := i0.1; have fi0 := i0.2.1; have zi0 := i0.2.2
  have i1 : Has w1 (w.heap.size + 1) 16 (fun o => .int .i64 (d o)) := by (rw [← hW]; repeat (first | (refine Has.new ?_ rfl; simp; done) | refine Has.alloc ?_ _))
  have ci1 := i1.1; have fi1 := i1.2.1; have zi1 := i1.2.2
  clear hW
  clear ci0 fi0 zi0 ci1 fi1 zi1 hsz
  go_wp2_with fail
  go_loopw [5] (fun v wr => ∃ r : Nat, r ≤ 4 ∧ v = .int .i64 r ∧ Hid (∀ p, p < 4 * r → b p = d p) ∧ Below w.heap.size w wr ∧ Has wr w.heap.size 16 (fun o => .int .i64 (b o)) ∧ Has wr (w.heap.size + 1) 16 (fun o => .int .i64 (d o))) (fun i _ => 4 - (intOf i).toNat)
  case atStart => exact ⟨0, by omega, rfl, hide fun p hp => absurd hp (by omega), hB, i0, i1⟩
  case round =>
    clear hB i0 i1
    obtain ⟨r, hr, rfl, hall, hB, i0, i1⟩ := hrel
    by_cases h4 : r = 4
    · subst h4
      have hr := hide (ltB_all hall.out)
      go_wp2
      go_ret
      exact ⟨ret_bool hr.out.symm, hB⟩
    · have hlt : r < 4 := by omega
      have hlti : (r : Int) < 4 := by omega
      have a0 : (0 : Int) ≤ r := by omega
      have hdr : decide ((r : Int) < 4) = true := decide_eq_true hlti
      go_wp2_with fail
      go_loopw [6] (fun v wr => ∃ c : Nat, c ≤ 4 ∧ v = .int .i64 c ∧ Hid (∀ p, p < 4 * r + c → b p = d p) ∧ Below w.heap.size w wr ∧ Has wr w.heap.size 16 (fun o => .int .i64 (b o)) ∧ Has wr (w.heap.size + 1) 16 (fun o => .int .i64 (d o))) (fun i _ => 4 - (intOf i).toNat)
      case atStart => exact ⟨0, by omega, rfl, hall, hB, i0, i1⟩
      case round =>
        clear hB i0 i1 hall
        obtain ⟨c, hc, rfl, hall, hB, i0, i1⟩ := hrel
        by_cases h4 : c = 4
        · subst h4
          go_wp2
          go_roundw
          case rel => exact ⟨r + 1, by omega, by go_num, hide (by rw [Nat.mul_succ]; exact hall.out), hB, i0, i1⟩
          case measure => simp [intOf]; omega
        · have hltc : c < 4 := by omega
          have hltci : (c : Int) < 4 := by omega
          have a1 : (0 : Int) ≤ c := by omega
          have q1 : wr.cell? ⟨w.heap.size, r * 4 + c, none⟩ = some (.int .i64 (b (4 * r + c))) := (i0.1 _ (by omega)).trans (by rw [Nat.mul_comm])
          have q2 : wr.cell? ⟨w.heap.size + 1, r * 4 + c, none⟩ = some (.int .i64 (d (4 * r + c))) := (i1.1 _ (by omega)).trans (by rw [Nat.mul_comm])
          by_cases he : b (4 * r + c) = d (4 * r + c)
          · have he' : (b (4 * r + c) != d (4 * r + c)) = false := by simpa using he
            have HE := hide he
            clear he
            go_wp2_with fail
            go_quiet (fail)
            go_wp2
            go_roundw
            case rel => exact ⟨c + 1, by omega, by go_num, hide (all_succ hall.out HE.out), (by repeat (first | (with_reducible exact Below.refl _ _) | (with_reducible assumption) | (with_reducible refine below_go ?_ (by with_reducible assumption)) | (with_reducible refine below_new ?_ _) | ((with_reducible refine below_put ?_ ?_ _); rotate_left; (dsimp only; omega)) | (with_reducible refine Below.drew ?_) | (with_reducible refine below_dn ?_ _))), (by repeat (first | (with_reducible assumption) | (with_reducible apply Has.set) | ((with_reducible apply Has.other); (case hne => (dsimp only; omega))) | (with_reducible apply Has.alloc) | (with_reducible apply Has.drew) | (with_reducible apply Has.drewN))), (by repeat (first | (with_reducible assumption) | (with_reducible apply Has.set) | ((with_reducible apply Has.other); (case hne => (dsimp only; omega))) | (with_reducible apply Has.alloc) | (with_reducible apply Has.drew) | (with_reducible apply Has.drewN)))⟩
            case measure => simp [intOf]; omega
          · have he' : (b (4 * r + c) != d (4 * r + c)) = true := by simpa using he
            have hr := hide (ltB_first (show 4 * r + c < 16 by omega) hall.out he)
            clear he
            go_wp2_with fail
            go_quiet (fail)
            go_wp2_with fail
            go_quiet (fail)
            go_wp2
            go_ret
            exact ⟨ret_bool hr.out.symm, (by repeat (first | (with_reducible exact Below.refl _ _) | (with_reducible assumption) | (with_reducible refine below_go ?_ (by with_reducible assumption)) | (with_reducible refine below_new ?_ _) | ((with_reducible refine below_put ?_ ?_ _); rotate_left; (dsimp only; omega)) | (with_reducible refine Below.drew ?_) | (with_reducible refine below_dn ?_ _)))⟩

end Go.Proofs.Ytmjehagmgifchaa
