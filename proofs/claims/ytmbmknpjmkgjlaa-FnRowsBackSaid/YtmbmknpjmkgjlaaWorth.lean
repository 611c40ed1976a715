/-
  Contracts: the worth of a tile, the program's and the reference's.
-/
import Derived.Test.YtmbmknpjmkgjlaaSlideMath
namespace Go.Proofs.Ytmbmknpjmkgjlaa
open Go.RowKit

theorem wrap_wrt {t : Int} (h1 : t ≤ 18) : wrap64 (2 ^ t.toNat) = wrt t := by
  have e : ((2 : Int) ^ t.toNat) = wrt t := by unfold wrt; rw [Int.natCast_pow]; rfl
  have h := wrt_le h1
  rw [e]
  unfold wrap64
  omega

def wz (t : Int) : Int := if t = 0 then 0 else wrt t

set_option maxHeartbeats 1000000 in
theorem worth_any (t : Int) (h0 : 0 ≤ t) (h1 : t ≤ 18) (w : World) : Calls Try.prog 78 #[.int .i64 t] w fun e w' => e = .returned (.int .i64 (wz t)) ∧ w = w' := by
  by_cases hz : t = 0
  · subst hz
    go_enter Try.func78, Try.ntmps78
    go_wp2
    go_ret
    exact ⟨rfl, rfl⟩
  · have e : wz t = wrt t := if_neg hz
    rw [e]
    go_enter Try.func78, Try.ntmps78
    go_wp2
    go_ret
    exact ⟨ret_int (wrap_wrt h1), rfl⟩

set_option maxHeartbeats 1000000 in
theorem l2Worth_any (t : Int) (h0 : 0 ≤ t) (h1 : t ≤ 18) (w : World) : Calls Try.prog 82 #[.int .i64 t] w fun e w' => e = .returned (.int .i64 (wrt t)) ∧ w = w' := by
  go_enter Try.func82, Try.ntmps82
  go_wp2
  go_ret
  exact ⟨ret_int (wrap_wrt h1), rfl⟩

end Go.Proofs.Ytmbmknpjmkgjlaa
