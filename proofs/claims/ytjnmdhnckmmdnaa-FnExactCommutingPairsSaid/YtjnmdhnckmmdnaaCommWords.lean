/-
  Words for directions that commute.
-/
import Derived.Test.YtjnmdhnckmmdnaaFfWords
import Derived.Test.YtjnmdhnckmmdnaaBoardMath
namespace Go.Proofs.Ytjnmdhnckmmdnaa
open Go.RowKit

/-- Whether two directions commute on a board. -/
def cmD (b : Nat → Int) (d e : Nat) : Bool := eqB (slB (slB b d) e) (slB (slB b e) d)
theorem two_new (x y : Value) (o : Nat) (ho : o < 2) : (#[x, y] : Array Value).getD o undef = if o = 0 then x else y := by
  rcases (by omega : o = 0 ∨ o = 1) with rfl | rfl <;> rfl
theorem has_two {w : World} {B : Nat} {T : TypeId} {x y : Value} (hB : B = w.heap.size) : Has (w.alloc (.cells #[x, y] T)) B 2 (fun o => if o = 0 then x else y) := by
  subst hB
  exact (Has.new' rfl).congr (two_new x y)
theorem ret_bb2 {a b c : Bool} (h : a = b) : Ending.returned (.tuple #[.bool a, .bool c]) = .returned (.tuple #[.bool b, .bool c]) := by rw [h]

end Go.Proofs.Ytjnmdhnckmmdnaa
