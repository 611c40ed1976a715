/-
  Contract: the reference's sum of the worths.
-/
import Derived.Test.YtjnmdhnckmmdnaaSum
import Derived.Test.YtjnmdhnckmmdnaaLine2
namespace Go.Proofs.Ytjnmdhnckmmdnaa
open Go.RowKit

set_option maxHeartbeats 4000000 in
set_option maxRecDepth 100000 in
theorem l2Sum_any (b : Nat → Int) (hb : In17 b 16) (w : World) :
    Calls Try.prog 94 #[.agg #[.int .i64 (b 0), .int .i64 (b 1), .int .i64 (b 2), .int .i64 (b 3), .int .i64 (b 4), .int .i64 (b 5), .int .i64 (b 6), .int .i64 (b 7), .int .i64 (b 8), .int .i64 (b 9), .int .i64 (b 10), .int .i64 (b 11), .int .i64 (b 12), .int .i64 (b 13), .int .i64 (b 14), .int .i64 (b 15)]] w fun e w' => e = .returned (.int .i64 (smT b 16)) ∧ Below w.heap.size w w' := by
  have HB := hide hb
  clear hb
  go_enter Try.func94, Try.ntmps94
  go_wp2_with fail
  generalize hW : w.alloc _ = w1
  have hB : Below w.heap.size w w1 := by (rw [← hW]; exact (by repeat (first | (with_reducible exact Below.refl _ _) | (with_reducible assumption) | (with_reducible refine below_go ?_ (by with_reducible assumption)) | (with_reducible refine below_new ?_ _) | ((with_reducible refine below_put ?_ ?_ _); rotate_left; (dsimp only; omega)) | (with_reducible refine Below.drew ?_) | (with_reducible refine below_dn ?_ _))))
  have hsz : Hid (w1.heap.size = w.heap.size + 1) := hide (by rw [← hW]; simp)
  have i0 : Has w1 (w.heap.size) 16 (fun o => .int .i64 (b o)) := by (rw [← hW]; repeat (first | (refine Has.new ?_ rfl; simp; done) | refine Has.alloc ?_ _))
  have ci0 := i0.1; have fi0 := i0.2.1; have zi0 := i0.2.2
  clear hW
  clear ci0 fi0 zi0 hsz
  go_loopw [3, 4] (fun v3 v4 wr => ∃ r : Nat, r ≤ 4 ∧ v4 = .int .i64 r ∧ v3 = .int .i64 (smT b (4 * r)) ∧ Below w.heap.size w wr ∧ Has wr w.heap.size 16 (fun o => .int .i64 (b o))) (fun _ i _ => 4 - (intOf i).toNat)
  case atStart => exact ⟨0, by omega, rfl, rfl, hB, i0⟩
  case round =>
    clear hB i0
    obtain ⟨r, hr, rfl, rfl, hB, i0⟩ := hrel
    by_cases h4 : r = 4
    · subst h4
      go_wp2
      go_ret
      exact ⟨rfl, hB⟩
    · have hlt : r < 4 := by omega
      have hlti : (r : Int) < 4 := by omega
      have hdr : decide ((r : Int) < 4) = true := decide_eq_true hlti
      go_wp2_with fail
      go_loopw [3, 5] (fun v3 v5 ws => ∃ c : Nat, c ≤ 4 ∧ v5 = .int .i64 c ∧ v3 = .int .i64 (smT b (4 * r + c)) ∧ Below w.heap.size w ws ∧ Has ws w.heap.size 16 (fun o => .int .i64 (b o))) (fun _ i _ => 4 - (intOf i).toNat)
      case atStart => exact ⟨0, by omega, rfl, rfl, hB, i0⟩
      case round =>
        clear hB i0
        obtain ⟨c, hc, rfl, rfl, hB, i0⟩ := hrel
        by_cases h4 : c = 4
        · subst h4
          go_wp2
          go_roundw
          case rel => exact ⟨r + 1, by omega, by go_num, by rw [Nat.mul_succ], hB, i0⟩
          case measure => simp [intOf]; omega
        · have hltc : c < 4 := by omega
          obtain ⟨hb0, hb1⟩ := HB.out (4 * r + c) (by omega)
          obtain ⟨s0, s1⟩ := smT_le HB.out (4 * r + c) (by omega)
          have q1 : wr.cell? ⟨w.heap.size, r * 4 + c, none⟩ = some (.int .i64 (b (4 * r + c))) := (i0.1 _ (by omega)).trans (by rw [Nat.mul_comm])
          by_cases hz : b (4 * r + c) = 0
          · go_wp2
            go_roundw
            case rel => exact ⟨c + 1, by omega, by go_num, by rw [← Nat.add_assoc, smT, hz]; simp [wth], hB, i0⟩
            case measure => simp [intOf]; omega
          · have ht0 : 0 < b (4 * r + c) := by omega
            obtain ⟨w0, w1⟩ := wrt_le (t := b (4 * r + c)) (by omega)
            go_wp2_with (first | (go_at_call 138; refine (l2Worth_any _ (by omega) (by omega) _).mono ?_; rintro e w1 ⟨rfl, rfl⟩))
            go_roundw
            case rel => exact ⟨c + 1, by omega, by go_num, by rw [← Nat.add_assoc, smT, wth, if_neg hz], hB, i0⟩
            case measure => simp [intOf]; omega

end Go.Proofs.Ytjnmdhnckmmdnaa
