/-
  Words for slices of cells.
-/
import Derived.Test.YtjnmdhnckmmdnaaMvWords
namespace Go.Proofs.Ytjnmdhnckmmdnaa
open Go.RowKit

/-- The cells of places, as a flat list. -/
def plF (l : List Nat) : List Nat := l.flatMap fun p => [p / 4, p % 4]
theorem plF_snoc (l : List Nat) (p : Nat) : plF (l ++ [p]) = plF l ++ [p / 4, p % 4] := by simp [plF]
theorem ints_two (l : List Nat) (x y : Nat) : ints (l ++ [x, y]) = ints l ++ [.int .i64 (x : Int), .int .i64 (y : Int)] := by simp [ints]
theorem plF_len (l : List Nat) : (plF l).length = l.length * 2 := by
  induction l with
  | nil => rfl
  | cons p l ih => simp only [plF, List.flatMap_cons, List.length_append, List.length_cons, List.length_nil] at ih ⊢; omega
theorem cells_sl {w : World} {base e : Nat} {v : Value} {l : List Nat} (h : w.ownsRow base e 2 v l.length (ints (plF l))) : ∃ A cap, v = .slice A l.length cap ∧ Sl w base A (l.length * 2) (fI (plF l)) := by
  obtain ⟨A, cap, rfl, _, hS⟩ := own_sl h
  exact ⟨A, cap, rfl, hS.congr fun o ho => by
    have : o < (plF l).length := by rw [plF_len]; exact ho
    simp [ints, fI, this]⟩

end Go.Proofs.Ytjnmdhnckmmdnaa
