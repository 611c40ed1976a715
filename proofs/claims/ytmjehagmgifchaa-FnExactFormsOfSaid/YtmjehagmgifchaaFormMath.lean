/-
  Plain words: the eight forms of a board.
-/
import Derived.Test.YtmjehagmgifchaaBoardMath
namespace Go.Proofs.Ytmjehagmgifchaa

def rotS (q : Nat) : Nat := 4 * (3 - q % 4) + q / 4
def mirS (q : Nat) : Nat := 4 * (q / 4) + (3 - q % 4)
/-- Where the number in place q of form k comes from. -/
def srcP (k q : Nat) : Nat := match k with
  | 0 => q | 1 => rotS q | 2 => rotS (rotS q) | 3 => rotS (rotS (rotS q))
  | 4 => mirS q | 5 => rotS (mirS q) | 6 => rotS (rotS (mirS q)) | _ => rotS (rotS (rotS (mirS q)))
def formB (b : Nat → Int) (k : Nat) : Nat → Int := fun q => b (srcP k q)
/-- Where form k moves place p. -/
def mvR (p : Nat) : Nat := 4 * (p % 4) + (3 - p / 4)
def mvP (k p : Nat) : Nat := match k with
  | 0 => p | 1 => mvR p | 2 => mvR (mvR p) | 3 => mvR (mvR (mvR p))
  | 4 => mirS p | 5 => mirS (mvR p) | 6 => mirS (mvR (mvR p)) | _ => mirS (mvR (mvR (mvR p)))

theorem srcP_lt : ∀ k, k < 8 → ∀ q, q < 16 → srcP k q < 16 := by decide
theorem mvP_lt : ∀ k, k < 8 → ∀ q, q < 16 → mvP k q < 16 := by decide
theorem srcP_mvP : ∀ k, k < 8 → ∀ p, p < 16 → srcP k (mvP k p) = p := by decide
theorem mvP_srcP : ∀ k, k < 8 → ∀ p, p < 16 → mvP k (srcP k p) = p := by decide

theorem k8 {k : Nat} (h : k < 8) : k = 0 ∨ k = 1 ∨ k = 2 ∨ k = 3 ∨ k = 4 ∨ k = 5 ∨ k = 6 ∨ k = 7 := by omega

/-- The form that is made of form k by form m. -/
def bhP (k m : Nat) : Nat := ((List.range 8).find? fun j => decide (mvP j 0 = mvP m (mvP k 0)) && decide (mvP j 1 = mvP m (mvP k 1))).getD 0
theorem bhP_lt : ∀ k, k < 8 → ∀ m, m < 8 → bhP k m < 8 := by decide +kernel
theorem srcP_bh : ∀ k, k < 8 → ∀ m, m < 8 → ∀ q, q < 16 → srcP k (srcP m q) = srcP (bhP k m) q := by decide +kernel
def bkP (k : Nat) : Nat := ((List.range 8).find? fun m => decide (bhP k m = 0)).getD 0
theorem bkP_lt : ∀ k, k < 8 → bkP k < 8 := by decide +kernel
theorem bh_bk : ∀ k, k < 8 → bhP k (bkP k) = 0 ∧ bhP (bkP k) k = 0 := by decide +kernel

/-- The board behind n places of a form. -/
def formTo (b : Nat → Int) (k n : Nat) : Nat → Int := fun q => if srcP k q < n then b (srcP k q) else 0
theorem formTo_zero (b : Nat → Int) (k : Nat) : formTo b k 0 = fun _ => 0 := by funext q; simp [formTo]
theorem formTo_full {b : Nat → Int} {k q : Nat} (hk : k < 8) (hq : q < 16) : formTo b k 16 q = formB b k q := by
  simp [formTo, formB, srcP_lt k hk q hq]
theorem formTo_succ {b : Nat → Int} {k n q : Nat} (hk : k < 8) (hn : n < 16) (hq : q < 16) :
    (if q = mvP k n then b n else formTo b k n q) = formTo b k (n + 1) q := by
  by_cases e : q = mvP k n
  · subst e
    simp [formTo, srcP_mvP k hk n hn]
  · rw [if_neg e]
    unfold formTo
    have h : srcP k q ≠ n := fun h => e (by rw [← h, mvP_srcP k hk q hq])
    by_cases h2 : srcP k q < n
    · rw [if_pos h2, if_pos (by omega)]
    · rw [if_neg h2, if_neg (by omega)]

end Go.Proofs.Ytmjehagmgifchaa
