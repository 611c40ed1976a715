/-
  Words for lists of small numbers as slices; the moves of a board.
-/
import Derived.Test.YtmjehagmgifchaaSlide
import Derived.Test.YtmjehagmgifchaaOwn
import Derived.Test.YtmjehagmgifchaaEqlB
import Derived.Test.YtmjehagmgifchaaCellLoop
import Derived.Test.YtmjehagmgifchaaBoard2
import Derived.Test.YtmjehagmgifchaaDir
namespace Go.Proofs.Ytmjehagmgifchaa
open Go.RowKit

def ints (l : List Nat) : List Value := l.map fun (k : Nat) => .int .i64 (k : Int)
theorem ints_snoc (l : List Nat) (k : Nat) : ints (l ++ [k]) = ints l ++ [.int .i64 (k : Int)] := by simp [ints]
/-- The moves among the first n directions. -/
def mvL (b : Nat → Int) (n : Nat) : List Nat := (List.range n).filter fun d => !eqB (slB b d) b
theorem mvL_yes {b : Nat → Int} {n : Nat} (h : eqB (slB b n) b = false) : mvL b (n + 1) = mvL b n ++ [n] := by
  unfold mvL
  rw [List.range_succ, List.filter_append]
  simp [h]
theorem mvL_no {b : Nat → Int} {n : Nat} (h : eqB (slB b n) b = true) : mvL b (n + 1) = mvL b n := by
  unfold mvL
  rw [List.range_succ, List.filter_append]
  simp [h]
theorem mvL_len (b : Nat → Int) (n : Nat) : (mvL b n).length ≤ n := by
  have := List.length_filter_le (fun d => !eqB (slB b d) b) (List.range n)
  simpa [mvL] using this

def fI (l : List Nat) : Nat → Value := fun o => .int .i64 ((l.getD o 0 : Nat) : Int)
theorem ints_sl {w : World} {base e : Nat} {v : Value} {l : List Nat} (h : w.ownsRow base e 1 v l.length (ints l)) : ∃ A cap, v = .slice A l.length cap ∧ Sl w base A l.length (fI l) := by
  obtain ⟨A, cap, rfl, _, hS⟩ := own_sl h
  rw [Nat.mul_one] at hS
  exact ⟨A, cap, rfl, hS.congr fun o ho => by simp [ints, fI, ho]⟩
def mvO (b : Nat → Int) : List Nat := if bdB b = true then mvL b 4 else []
theorem mvO_len (b : Nat → Int) : (mvO b).length ≤ 4 := by
  have := mvL_len b 4
  unfold mvO; split
  · exact this
  · simp
def ovB (b : Nat → Int) : Bool := (mvL b 4).isEmpty
theorem ovB_len (b : Nat → Int) : (((mvL b 4).length : Int) == 0) = ovB b := by
  unfold ovB
  cases mvL b 4 with
  | nil => rfl
  | cons x l => simp; omega

end Go.Proofs.Ytmjehagmgifchaa
