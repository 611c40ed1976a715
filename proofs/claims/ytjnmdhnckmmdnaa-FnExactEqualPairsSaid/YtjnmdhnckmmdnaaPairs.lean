/-
  Contracts: equal pairs of a row and of a board, the reference's.
-/
import Derived.Test.YtjnmdhnckmmdnaaCellLoop
import Derived.Test.YtjnmdhnckmmdnaaManyMath
import Derived.Test.YtjnmdhnckmmdnaaBoard2
import Derived.Test.YtjnmdhnckmmdnaaDir
import Derived.Test.YtjnmdhnckmmdnaaLine3
import Derived.IntWalk
import Derived.Test.YtjnmdhnckmmdnaaSlideMath2
namespace Go.Proofs.Ytjnmdhnckmmdnaa
open Go.RowKit

theorem Calls.quiet_of_eq {P : Program} {f : FuncId} {args : Array Value} {w : World} {n : Nat} {v : Value} (h : Calls P f args (w.drewN n) fun e w' => e = .returned v ∧ w.drewN n = w') : Calls P f args (w.drewN n) fun e w'' => e = .returned v ∧ ∃ m, w'' = w.drewN m :=
  h.mono fun _ _ ⟨he, hm⟩ => ⟨he, n, hm.symm⟩

theorem prT_ne {r : Nat → Int} {k : Nat} (h : r k ≠ r (k + 1)) : prT r (k + 1) = prT r k := by
  simp [prT, h]
theorem prT_out {r : Nat → Int} {k : Nat} (h : inB (r k) 1 16 = false) : prT r (k + 1) = prT r k := by
  have h' : ¬ (1 ≤ r k ∧ r k ≤ 16) := by simpa [inB] using h
  simp only [prT]
  rw [if_neg fun hh => h' hh.2]; omega
theorem prT_in {r : Nat → Int} {k : Nat} (e : r k = r (k + 1)) (h : inB (r k) 1 16 = true) : prT r (k + 1) = prT r k + 1 := by
  have h' : 1 ≤ r k ∧ r k ≤ 16 := by simpa [inB] using h
  simp only [prT]
  rw [if_pos ⟨e, h'⟩]

set_option maxHeartbeats 4000000 in
set_option maxRecDepth 100000 in
theorem l2Pairs_any (r : Nat → Int) (w : World) :
    Calls Try.prog 104 #[.agg #[.int .i64 (r 0), .int .i64 (r 1), .int .i64 (r 2), .int .i64 (r 3)]] w fun e w' => e = .returned (.int .i64 (prT r 3)) ∧ Below w.heap.size w w' := by
  go_enter Try.func104, Try.ntmps104
  go_wp2_with fail
  generalize hW : w.alloc _ = w1
  have hB : Below w.heap.size w w1 := by (rw [← hW]; exact (by repeat (first | (with_reducible exact Below.refl _ _) | (with_reducible assumption) | (with_reducible refine below_go ?_ (by with_reducible assumption)) | (with_reducible refine below_new ?_ _) | ((with_reducible refine below_put ?_ ?_ _); rotate_left; (dsimp only; omega)) | (with_reducible refine Below.drew ?_) | (with_reducible refine below_dn ?_ _))))
  have hsz : Hid (w1.heap.size = w.heap.size + 1) := hide (by rw [← hW]; simp)
  have i0 : Has w1 (w.heap.size) 4 (fun o => .int .i64 (r o)) := by (rw [← hW]; repeat (first | (refine Has.new ?_ rfl; simp; done) | refine Has.alloc ?_ _))
  have ci0 := i0.1; have fi0 := i0.2.1; have zi0 := i0.2.2
  clear hW
  clear ci0 fi0 zi0 hsz
  go_loopw [3, 4] (fun v3 v4 wr => ∃ k : Nat, k ≤ 3 ∧ v4 = .int .i64 ((k : Int) + 1) ∧ v3 = .int .i64 (prT r k) ∧ Below w.heap.size w wr ∧ Has wr w.heap.size 4 (fun o => .int .i64 (r o))) (fun _ i _ => 4 - (intOf i).toNat)
  case atStart => exact ⟨0, by omega, rfl, rfl, hB, i0⟩
  case round =>
    clear hB i0
    obtain ⟨k, hk, rfl, rfl, hB, i0⟩ := hrel
    by_cases h4 : k = 3
    · subst h4
      go_wp2
      go_ret
      exact ⟨rfl, hB⟩
    · have hlt : k < 3 := by omega
      obtain ⟨p0, p1⟩ := prT_le r k
      have a1 : (0 : Int) ≤ k := by omega
      have a2 : (k : Int) < 3 := by omega
      have s1 : IntKind.i64.wrap ((k : Int) + 1 - 1) = (k : Int) := by rw [IntWalk.i64_in _ (by omega)]; omega
      have s2 : ((k : Int) + 1).toNat = k + 1 := by omega
      have q1 : wr.cell? ⟨w.heap.size, k, none⟩ = some (.int .i64 (r k)) := i0.1 _ (by omega)
      have q2 : wr.cell? ⟨w.heap.size, k + 1, none⟩ = some (.int .i64 (r (k + 1))) := i0.1 _ (by omega)
      by_cases he : r k = r (k + 1)
      · have he' : (r (k + 1) == r k) = true := by simpa using he.symm
        have HE := hide he
        clear he
        cases hi : inB (r k) 1 16
        · have hi2 : inB (r (k + 1)) 1 16 = false := by rw [← HE.out]; exact hi
          have HI := hide hi
          clear hi
          go_wp2_with fail
          go_quiet ((go_at_call 127; exact Calls.quiet_of_eq (l1In_any _ _ _ _)))
          clear s1 s2
          go_wp2
          go_roundw
          case rel => exact ⟨k + 1, by omega, by go_num, by rw [prT_out HI.out], (by repeat (first | (with_reducible exact Below.refl _ _) | (with_reducible assumption) | (with_reducible refine below_go ?_ (by with_reducible assumption)) | (with_reducible refine below_new ?_ _) | ((with_reducible refine below_put ?_ ?_ _); rotate_left; (dsimp only; omega)) | (with_reducible refine Below.drew ?_) | (with_reducible refine below_dn ?_ _))), (by repeat (first | (with_reducible assumption) | (with_reducible apply Has.set) | ((with_reducible apply Has.other); (case hne => (dsimp only; omega))) | (with_reducible apply Has.alloc) | (with_reducible apply Has.drew) | (with_reducible apply Has.drewN)))⟩
          case measure => simp [intOf]; omega
        · have hi2 : inB (r (k + 1)) 1 16 = true := by rw [← HE.out]; exact hi
          have HI := hide hi
          clear hi
          go_wp2_with fail
          go_quiet ((go_at_call 127; exact Calls.quiet_of_eq (l1In_any _ _ _ _)))
          clear s1 s2
          go_wp2
          go_roundw
          case rel => exact ⟨k + 1, by omega, by go_num, by rw [prT_in HE.out HI.out], (by repeat (first | (with_reducible exact Below.refl _ _) | (with_reducible assumption) | (with_reducible refine below_go ?_ (by with_reducible assumption)) | (with_reducible refine below_new ?_ _) | ((with_reducible refine below_put ?_ ?_ _); rotate_left; (dsimp only; omega)) | (with_reducible refine Below.drew ?_) | (with_reducible refine below_dn ?_ _))), (by repeat (first | (with_reducible assumption) | (with_reducible apply Has.set) | ((with_reducible apply Has.other); (case hne => (dsimp only; omega))) | (with_reducible apply Has.alloc) | (with_reducible apply Has.drew) | (with_reducible apply Has.drewN)))⟩
          case measure => simp [intOf]; omega
      · have he' : (r (k + 1) == r k) = false := by simpa using fun h => he h.symm
        have HE := hide he
        clear he
        go_wp2_with fail
        go_quiet (fail)
        clear s1 s2
        go_wp2
        go_roundw
        case rel => exact ⟨k + 1, by omega, by go_num, by rw [prT_ne HE.out], (by repeat (first | (with_reducible exact Below.refl _ _) | (with_reducible assumption) | (with_reducible refine below_go ?_ (by with_reducible assumption)) | (with_reducible refine below_new ?_ _) | ((with_reducible refine below_put ?_ ?_ _); rotate_left; (dsimp only; omega)) | (with_reducible refine Below.drew ?_) | (with_reducible refine below_dn ?_ _))), (by repeat (first | (with_reducible assumption) | (with_reducible apply Has.set) | ((with_reducible apply Has.other); (case hne => (dsimp only; omega))) | (with_reducible apply Has.alloc) | (with_reducible apply Has.drew) | (with_reducible apply Has.drewN)))⟩
        case measure => simp [intOf]; omega

end Go.Proofs.Ytjnmdhnckmmdnaa
