/-
  Contracts: where a form moves a cell; a form of a board (the program's).
-/
import Derived.Test.YtegdnfmhhigjfaaQEqlB
import Derived.Test.YtegdnfmhhigjfaaQTiles
import Derived.Deep.RegionHeld3
namespace Go.Proofs.Ytegdnfmhhigjfaa
open Go.RowKit

def mvX (k : Nat) (x y : Int) : Int := match k % 4 with | 0 => x | 1 => y | 2 => 3 - x | _ => 3 - y
def mvY (k : Nat) (x y : Int) : Int := if k < 4 then (match k % 4 with | 0 => y | 1 => 3 - x | 2 => 3 - y | _ => x) else (match k % 4 with | 0 => 3 - y | 1 => x | 2 => y | _ => 3 - x)
theorem mvXY : ∀ k : Nat, k < 8 → ∀ p : Nat, p < 16 → mvX k ((p : Int) / 4) ((p : Int) % 4) = ((mvP k p : Nat) : Int) / 4 ∧ mvY k ((p : Int) / 4) ((p : Int) % 4) = ((mvP k p : Nat) : Int) % 4 := by decide
theorem agg2 {a b c d : Int} (h1 : a = c) (h2 : b = d) : Ending.returned (.agg #[.int .i64 a, .int .i64 b]) = .returned (.agg #[.int .i64 c, .int .i64 d]) := by rw [h1, h2]

set_option maxHeartbeats 4000000 in
theorem moved_xy (k : Nat) (hk : k < 8) (x y : Int) (hx0 : 0 ≤ x) (hx3 : x ≤ 3) (hy0 : 0 ≤ y) (hy3 : y ≤ 3) (w : World) :
    Calls Try.prog 68 #[.int .i64 k, .agg #[.int .i64 x, .int .i64 y]] w fun e w' => e = .returned (.agg #[.int .i64 (mvX k x y), .int .i64 (mvY k x y)]) ∧ Below w.heap.size w w' := by
  rcases k8 hk with rfl | rfl | rfl | rfl | rfl | rfl | rfl | rfl
  all_goals
    clear hk
    go_enter Try.func68, Try.ntmps68
    go_wp2_with (first | (rw [rounds_succ]) | (with_reducible refine wp_loop_rounds 5 ?_))
    refine bodyPost_ret (v := .agg #[.int .i64 (mvX _ x y), .int .i64 (mvY _ x y)]) (by simp [results, Try.results68, go_sem, mvX, mvY] <;> omega) rfl ⟨rfl, (by repeat (first | (with_reducible exact Below.refl _ _) | (with_reducible assumption) | (with_reducible refine below_go ?_ (by with_reducible assumption)) | (with_reducible refine below_new ?_ _) | ((with_reducible refine below_put ?_ ?_ _); rotate_left; (dsimp only; omega)) | (with_reducible refine Below.drew ?_) | (with_reducible refine below_dn ?_ _)))⟩

end Go.Proofs.Ytegdnfmhhigjfaa
