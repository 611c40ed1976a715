/-
  Contracts: how many tiles a row has; whether it is flush (the reference's); equality of slices of numbers.
-/
import Derived.Test.YtmbmknpjmkgjlaaTiles
import Derived.Test.YtmbmknpjmkgjlaaEql
namespace Go.Proofs.Ytmbmknpjmkgjlaa
open Go.RowKit

set_option maxHeartbeats 1000000 in
theorem l4Many_any (r : Nat → Int) (hr : ∀ i, i < 4 → 0 ≤ r i ∧ r i ≤ 17) (w : World) : Calls Try.prog 59 #[.agg #[.int .i64 (r 0), .int .i64 (r 1), .int .i64 (r 2), .int .i64 (r 3)]] w fun e w' => e = .returned (.int .i64 (tilesL r).length) ∧ Below w.heap.size w w' := by
  have HR := hide hr
  clear hr
  go_enter Try.func59, Try.ntmps59
  go_wp2_with fail
  go_loopw [3, 4] (fun v3 v4 wr => ∃ k : Nat, k ≤ 4 ∧ v4 = .int .i64 k ∧ v3 = .int .i64 (kept r k).length ∧ Below w.heap.size w wr ∧ Has wr w.heap.size 4 (fun o => .int .i64 (r o))) (fun _ i _ => 4 - (intOf i).toNat)
  case atStart => exact ⟨0, by omega, rfl, rfl, (by repeat (first | (with_reducible exact Below.refl _ _) | (with_reducible assumption) | (with_reducible refine below_go ?_ (by with_reducible assumption)) | (with_reducible refine below_new ?_ _) | ((with_reducible refine below_put ?_ ?_ _); rotate_left; (dsimp only; omega)) | (with_reducible refine Below.drew ?_) | (with_reducible refine below_dn ?_ _))), Has.new rfl rfl⟩
  case round =>
    obtain ⟨k, hk, rfl, rfl, hB, i0⟩ := hrel
    have ci0 := i0.1; have fi0 := i0.2.1; have zi0 := i0.2.2
    have hl := kept_len r k
    by_cases h4 : k = 4
    · subst h4
      go_wp2
      go_ret
      exact ⟨rfl, (by repeat (first | (with_reducible exact Below.refl _ _) | (with_reducible assumption) | (with_reducible refine below_go ?_ (by with_reducible assumption)) | (with_reducible refine below_new ?_ _) | ((with_reducible refine below_put ?_ ?_ _); rotate_left; (dsimp only; omega)) | (with_reducible refine Below.drew ?_) | (with_reducible refine below_dn ?_ _)))⟩
    · have hlt : k < 4 := by omega
      obtain ⟨hb0, hb1⟩ := HR.out k hlt
      by_cases hz : r k = 0
      · have hz' : ¬ (0 : Int) < r k := by omega
        have HZ := hide hz
        clear hz
        go_wp2
        go_roundw
        case rel => exact ⟨k + 1, by omega, by go_num, by rw [kept_succ, if_pos HZ.out], hB, i0⟩
        case measure => simp [intOf]; omega
      · have hz' : (0 : Int) < r k := by omega
        have HZ := hide hz
        clear hz
        go_wp2
        go_roundw
        case rel => exact ⟨k + 1, by omega, by go_num, by rw [kept_succ, if_neg HZ.out, List.length_append]; go_num, hB, i0⟩
        case measure => simp [intOf]; omega

def flB (r : Nat → Int) : Bool := !(decide (0 < r 1) && decide (r 0 = 0)) && (!(decide (0 < r 2) && decide (r 1 = 0)) && !(decide (0 < r 3) && decide (r 2 = 0)))

set_option maxHeartbeats 2000000 in
theorem l4Flush_any (r : Nat → Int) (w : World) : Calls Try.prog 47 #[.agg #[.int .i64 (r 0), .int .i64 (r 1), .int .i64 (r 2), .int .i64 (r 3)]] w fun e w' => e = .returned (.bool (flB r)) ∧ Below w.heap.size w w' := by
  go_enter Try.func47, Try.ntmps47
  go_wp2_with (first | (rw [rounds_succ]) | (with_reducible refine wp_loop_rounds 4 ?_))
  all_goals
    go_ret
    refine ⟨ret_bool ?_, (by repeat (first | (with_reducible exact Below.refl _ _) | (with_reducible assumption) | (with_reducible refine below_go ?_ (by with_reducible assumption)) | (with_reducible refine below_new ?_ _) | ((with_reducible refine below_put ?_ ?_ _); rotate_left; (dsimp only; omega)) | (with_reducible refine Below.drew ?_) | (with_reducible refine below_dn ?_ _)))⟩
    simp_all [flB]

set_option maxHeartbeats 2000000 in
theorem equal_any (B1 B2 : Nat) (A1 A2 : Option Addr) (n c1 c2 : Nat) (x y : Nat → Int) (w : World) (h1 : Sl w B1 A1 n (fun i => .int .i64 (x i))) (h2 : Sl w B2 A2 n (fun i => .int .i64 (y i))) (hn : n ≤ 65536) :
    Calls Try.prog 61 #[.slice A1 n c1, .slice A2 n c2] w fun e w' => e = .returned (.bool (allEq x y n)) ∧ Below w.heap.size w w' := by
  have S1 := hide h1
  have S2 := hide h2
  clear h1 h2
  go_enter Try.func61, Try.ntmps61
  go_wp2_with fail
  go_loopw [13] (fun v wr => ∃ k : Nat, k ≤ n ∧ v = .int .i64 k ∧ Hid (∀ i, i < k → x i = y i) ∧ Below w.heap.size w wr) (fun i _ => n - (intOf i).toNat)
  case atStart => exact ⟨0, by omega, rfl, hide (fun i hi => absurd hi (Nat.not_lt_zero _)), (by repeat (first | (with_reducible exact Below.refl _ _) | (with_reducible assumption) | (with_reducible refine below_go ?_ (by with_reducible assumption)) | (with_reducible refine below_new ?_ _) | ((with_reducible refine below_put ?_ ?_ _); rotate_left; (dsimp only; omega)) | (with_reducible refine Below.drew ?_) | (with_reducible refine below_dn ?_ _)))⟩
  case round =>
    obtain ⟨k, hk, rfl, hall, hB⟩ := hrel
    by_cases h4 : k = n
    · subst h4
      go_wp2
      go_ret
      exact ⟨ret_bool (by simp only [allEq]; exact (decide_eq_true hall.out).symm), (by repeat (first | (with_reducible exact Below.refl _ _) | (with_reducible assumption) | (with_reducible refine below_go ?_ (by with_reducible assumption)) | (with_reducible refine below_new ?_ _) | ((with_reducible refine below_put ?_ ?_ _); rotate_left; (dsimp only; omega)) | (with_reducible refine Below.drew ?_) | (with_reducible refine below_dn ?_ _)))⟩
    · have hlt : k < n := by omega
      obtain ⟨g1, rfl, -, j1⟩ := S1.out (by omega)
      obtain ⟨g2, rfl, -, j2⟩ := S2.out (by omega)
      have i1 := j1.call hB
      have i2 := j2.call hB
      clear j1 j2
      have ci1 := i1.1; have ci2 := i2.1
      by_cases he : x k = y k
      · have he' : (x k == y k) = true := by simpa using he
        have he2 : (x k != y k) = false := by simpa using he
        have HE := hide he
        clear he
        go_wp2_with fail
        go_quiet (fail)
        go_wp2
        go_roundw
        case rel => exact ⟨k + 1, by omega, by go_num, hide (all_succ hall.out HE.out), (by repeat (first | (with_reducible exact Below.refl _ _) | (with_reducible assumption) | (with_reducible refine below_go ?_ (by with_reducible assumption)) | (with_reducible refine below_new ?_ _) | ((with_reducible refine below_put ?_ ?_ _); rotate_left; (dsimp only; omega)) | (with_reducible refine Below.drew ?_) | (with_reducible refine below_dn ?_ _)))⟩
        case measure => simp [intOf]; omega
      · have he' : (x k == y k) = false := by simpa using he
        have he2 : (x k != y k) = true := by simpa using he
        have HE := hide he
        clear he
        go_wp2_with fail
        go_quiet (fail)
        go_wp2
        go_ret
        exact ⟨ret_bool (by simp only [allEq]; exact (decide_eq_false fun h => HE.out (h k hlt)).symm), (by repeat (first | (with_reducible exact Below.refl _ _) | (with_reducible assumption) | (with_reducible refine below_go ?_ (by with_reducible assumption)) | (with_reducible refine below_new ?_ _) | ((with_reducible refine below_put ?_ ?_ _); rotate_left; (dsimp only; omega)) | (with_reducible refine Below.drew ?_) | (with_reducible refine below_dn ?_ _)))⟩

end Go.Proofs.Ytmbmknpjmkgjlaa
