/-
  Contracts of l4Row and the reference's IsRow.
-/
import Derived.Test.YtjmkmoicjhgfiaaRow1
namespace Go.Proofs.Ytjmkmoicjhgfiaa
open Go.RowKit

set_option maxHeartbeats 1000000 in
theorem l4Row_any (a b c d : Int) (w : World) :
    Calls Try.prog 58 #[.agg #[.int .i64 a, .int .i64 b, .int .i64 c, .int .i64 d]] w fun e w' => e = .returned (.bool (rowB a b c d)) ∧ Below w.heap.size w w' := by
  go_enter Try.func58, Try.ntmps58
  go_wp2
  refine wp_loop_rounds 5 ?_
  repeat any_goals (rw [rounds_succ]; go_wp2_with (first | (go_at_call 55; refine (l1In_any _ _ _ _).mono ?_; rintro e w' ⟨rfl, rfl⟩) | go_in))
  all_goals
    go_ret
    refine ⟨ret_bool ?_, (Below.refl _ _).alloc (Nat.le_refl _) _⟩
    simp_all [rowB]

set_option maxHeartbeats 1000000 in
theorem specIsRow_any (a b c d : Int) (w : World) :
    Calls Try.prog 21 #[.agg #[.int .i64 a, .int .i64 b, .int .i64 c, .int .i64 d]] w fun e w' => e = .returned (.bool (rowB a b c d)) ∧ Below w.heap.size w w' := by
  go_enter Try.func21, Try.ntmps21
  go_wp2_with (go_at_call 58; refine (l4Row_any _ _ _ _ _).mono ?_; rintro e w' ⟨rfl, hb⟩)
  go_ret
  exact ⟨rfl, below_go (below_new (Below.refl _ _) _) hb⟩

end Go.Proofs.Ytjmkmoicjhgfiaa
