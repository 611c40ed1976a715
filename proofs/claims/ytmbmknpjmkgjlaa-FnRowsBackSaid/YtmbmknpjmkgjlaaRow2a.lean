/-
  Contracts of l4Row.
-/
import Derived.Test.YtmbmknpjmkgjlaaRow1
namespace Go.Proofs.Ytmbmknpjmkgjlaa
open Go.RowKit

set_option maxHeartbeats 1000000 in
theorem l4Row_any (a b c d : Int) (w : World) :
    Calls Try.prog 43 #[.agg #[.int .i64 a, .int .i64 b, .int .i64 c, .int .i64 d]] w fun e w' => e = .returned (.bool (rowB a b c d)) ∧ Below w.heap.size w w' := by
  go_enter Try.func43, Try.ntmps43
  go_wp2
  refine wp_loop_rounds 5 ?_
  repeat any_goals (rw [rounds_succ]; go_wp2_with (first | (go_at_call 46; refine (l1In_any _ _ _ _).mono ?_; rintro e w' ⟨rfl, rfl⟩) | go_in))
  all_goals
    go_ret
    refine ⟨ret_bool ?_, (Below.refl _ _).alloc (Nat.le_refl _) _⟩
    simp_all [rowB]

end Go.Proofs.Ytmbmknpjmkgjlaa
