/-
  Words for SymmetriesOf.
-/
import Derived.Test.YtmjehagmgifchaaMvWords
import Derived.Test.YtmjehagmgifchaaFormMath2
namespace Go.Proofs.Ytmjehagmgifchaa
open Go.RowKit

def syO (b : Nat → Int) : List Nat := if bdB b = true then symL b 8 else []
theorem syO_len (b : Nat → Int) : (syO b).length ≤ 8 := by
  have := symL_len b 8
  unfold syO; split
  · exact this
  · simp
theorem symL_yes {b : Nat → Int} {n : Nat} (h : smB b n = true) : symL b (n + 1) = symL b n ++ [n] := by rw [symL_succ, if_pos h]
theorem symL_no {b : Nat → Int} {n : Nat} (h : smB b n = false) : symL b (n + 1) = symL b n := by rw [symL_succ, if_neg (by rw [h]; exact Bool.false_ne_true)]

end Go.Proofs.Ytmjehagmgifchaa
