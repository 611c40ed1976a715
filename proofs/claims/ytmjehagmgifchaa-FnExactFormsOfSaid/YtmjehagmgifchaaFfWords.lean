/-
  Words for first forms.
-/
import Derived.Test.YtmjehagmgifchaaFormMath2
import Derived.Test.YtmjehagmgifchaaEqlB
import Derived.Test.YtmjehagmgifchaaTkWords
namespace Go.Proofs.Ytmjehagmgifchaa
open Go.RowKit

/-- Whether two boards have one first form. -/
def sfB (b c : Nat → Int) : Bool := eqB (formB b (ffK b 8)) (formB c (ffK c 8))
theorem lit16' (f : Nat → Int) (o : Nat) (ho : o < 16) : (#[Value.int .i64 (f 0), .int .i64 (f 1), .int .i64 (f 2), .int .i64 (f 3), .int .i64 (f 4), .int .i64 (f 5), .int .i64 (f 6), .int .i64 (f 7), .int .i64 (f 8), .int .i64 (f 9), .int .i64 (f 10), .int .i64 (f 11), .int .i64 (f 12), .int .i64 (f 13), .int .i64 (f 14), .int .i64 (f 15)] : Array Value).getD o undef = .int .i64 (f o) := by
  rcases p16 ho with rfl | rfl | rfl | rfl | rfl | rfl | rfl | rfl | rfl | rfl | rfl | rfl | rfl | rfl | rfl | rfl <;> rfl

end Go.Proofs.Ytmjehagmgifchaa
