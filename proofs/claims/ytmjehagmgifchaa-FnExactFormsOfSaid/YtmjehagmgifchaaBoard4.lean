/-
  Contracts: the laws' copy of a cell, equality of equal arrays.
-/
import Derived.Test.YtmjehagmgifchaaBoard1
import Derived.Test.YtmjehagmgifchaaBase2
namespace Go.Proofs.Ytmjehagmgifchaa
open Go.RowKit

set_option maxHeartbeats 1000000 in
theorem eqIntA4_same (a b c d : Int) (w : World) : Calls Try.prog 147 #[.agg #[.int .i64 a, .int .i64 b, .int .i64 c, .int .i64 d], .agg #[.int .i64 a, .int .i64 b, .int .i64 c, .int .i64 d]] w fun e w' => e = .returned (.bool true) ∧ Below w.heap.size w w' := by
  go_enter Try.func147, Try.ntmps147
  go_wp2_with (first | (rw [rounds_succ]) | (with_reducible refine wp_loop_rounds 5 ?_) | (go_quiet (fail)) | go_in)
  go_ret
  exact ⟨rfl, (by repeat (first | (with_reducible exact Below.refl _ _) | (with_reducible assumption) | (with_reducible refine below_go ?_ (by with_reducible assumption)) | (with_reducible refine below_new ?_ _) | ((with_reducible refine below_put ?_ ?_ _); rotate_left; (dsimp only; omega)) | (with_reducible refine Below.drew ?_) | (with_reducible refine below_dn ?_ _)))⟩

end Go.Proofs.Ytmjehagmgifchaa
