/-
  Plain words: a board that is valid, a direction that is one.
-/
import Derived.Test.YtmjehagmgifchaaBoard1
import Derived.Test.YtmjehagmgifchaaBoardMath
import Derived.Test.YtmjehagmgifchaaZr
namespace Go.Proofs.Ytmjehagmgifchaa
open Go.RowKit

theorem bdB_in {b : Nat → Int} (h : bdB b = true) : In17 b 16 := by
  have h' : ∀ i, i < 4 → rowB (b (4 * i)) (b (4 * i + 1)) (b (4 * i + 2)) (b (4 * i + 3)) = true := by
    simp only [bdB, Bool.and_eq_true] at h
    intro i hi
    rcases (by omega : i = 0 ∨ i = 1 ∨ i = 2 ∨ i = 3) with rfl | rfl | rfl | rfl
    · exact h.1
    · exact h.2.1
    · exact h.2.2.1
    · exact h.2.2.2
  intro p hp
  have h2 := h' (p / 4) (by omega)
  simp only [rowB, inB, Bool.and_eq_true, decide_eq_true_eq] at h2
  rcases (by omega : p % 4 = 0 ∨ p % 4 = 1 ∨ p % 4 = 2 ∨ p % 4 = 3) with e | e | e | e
  · rw [show p = 4 * (p / 4) by omega]; exact h2.1
  · rw [show p = 4 * (p / 4) + 1 by omega]; exact h2.2.1
  · rw [show p = 4 * (p / 4) + 2 by omega]; exact h2.2.2.1
  · rw [show p = 4 * (p / 4) + 3 by omega]; exact h2.2.2.2
theorem dir_nat {d : Int} (h : inB d 0 3 = true) : ∃ n : Nat, n < 4 ∧ d = (n : Int) := by
  have h' : 0 ≤ d ∧ d ≤ 3 := by simpa [inB] using h
  exact ⟨d.toNat, by omega, by omega⟩

end Go.Proofs.Ytmjehagmgifchaa
