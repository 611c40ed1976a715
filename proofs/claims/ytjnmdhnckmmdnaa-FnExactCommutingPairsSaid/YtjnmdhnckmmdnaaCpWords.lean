/-
  Words for CommutingPairs.
-/
import Derived.Test.YtjnmdhnckmmdnaaPlWords
import Derived.Test.YtjnmdhnckmmdnaaCommWords
namespace Go.Proofs.Ytjnmdhnckmmdnaa
open Go.RowKit

/-- The pairs of directions that commute, among the first n codes 4 d + e. -/
def cpL (b : Nat → Int) (n : Nat) : List Nat := (List.range n).filter fun p => decide (p / 4 < p % 4) && cmD b (p / 4) (p % 4)
theorem cpL_succ (b : Nat → Int) (n : Nat) : cpL b (n + 1) = if (decide (n / 4 < n % 4) && cmD b (n / 4) (n % 4)) = true then cpL b n ++ [n] else cpL b n := by
  unfold cpL
  rw [List.range_succ, List.filter_append]
  cases h : (decide (n / 4 < n % 4) && cmD b (n / 4) (n % 4)) <;> simp [h]
theorem cpL_yes {b : Nat → Int} {d e : Nat} (he : e < 4) (hde : d < e) (h : cmD b d e = true) : cpL b (4 * d + (e + 1)) = cpL b (4 * d + e) ++ [4 * d + e] := by
  rw [← Nat.add_assoc, cpL_succ, show (4 * d + e) / 4 = d by omega, show (4 * d + e) % 4 = e by omega, h, decide_eq_true hde]
  simp
theorem cpL_no {b : Nat → Int} {d e : Nat} (he : e < 4) (h : cmD b d e = false) : cpL b (4 * d + (e + 1)) = cpL b (4 * d + e) := by
  rw [← Nat.add_assoc, cpL_succ, show (4 * d + e) / 4 = d by omega, show (4 * d + e) % 4 = e by omega, h]
  simp
theorem cpL_skip {b : Nat → Int} {d : Nat} (hd : d < 4) : ∀ e, e ≤ d + 1 → cpL b (4 * d + e) = cpL b (4 * d)
  | 0, _ => rfl
  | e + 1, he => by
    have ih := cpL_skip (b := b) hd e (by omega)
    rw [← Nat.add_assoc, cpL_succ, show (4 * d + e) / 4 = d by omega, show (4 * d + e) % 4 = e by omega, decide_eq_false (by omega : ¬ d < e)]
    simpa using ih
theorem cpL_len (b : Nat → Int) (n : Nat) : (cpL b n).length ≤ n := by
  have := List.length_filter_le (fun p => decide (p / 4 < p % 4) && cmD b (p / 4) (p % 4)) (List.range n)
  simpa [cpL] using this
def cpO (b : Nat → Int) : List Nat := if bdB b = true then cpL b 16 else []
theorem cpO_len (b : Nat → Int) : (cpO b).length ≤ 16 := by
  have := cpL_len b 16
  unfold cpO; split
  · exact this
  · simp
theorem cp_ints {b : Nat → Int} {d e : Nat} (he : e < 4) (h : cpL b (4 * d + (e + 1)) = cpL b (4 * d + e) ++ [4 * d + e]) : ints (plF (cpL b (4 * d + (e + 1)))) = ints (plF (cpL b (4 * d + e))) ++ [.int .i64 (d : Int), .int .i64 (e : Int)] := by
  rw [h, plF_snoc, ints_two, show (4 * d + e) / 4 = d by omega, show (4 * d + e) % 4 = e by omega]
theorem own_drewT {w : World} {base e size n : Nat} {v : Value} {xs : List Value} (h : w.ownsRow base e size v n xs) : w.drew.ownsRow base e size v n xs := h

end Go.Proofs.Ytjnmdhnckmmdnaa
