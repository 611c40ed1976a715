/-
  Plain words: forms told by two cells, by the marked board, by a tile alone.
-/
import Derived.Test.YtjnmdhnckmmdnaaFormMath2
namespace Go.Proofs.Ytjnmdhnckmmdnaa

/-- The first form that moves place 0 to P and place 1 to Q. -/
def likeP (P Q : Nat) : Nat := ((List.range 8).find? fun j => decide (mvP j 0 = P) && decide (mvP j 1 = Q)).getD 0
theorem bhP_like (k m : Nat) : bhP k m = likeP (mvP m (mvP k 0)) (mvP m (mvP k 1)) := rfl
theorem find_first {p : Nat → Bool} {n k : Nat} (hk : k < n) (h : p k = true) (hall : ∀ j, j < k → p j = false) : (List.range n).find? p = some k := by
  rw [List.find?_range_eq_some]
  exact ⟨h, List.mem_range.2 hk, fun j hj => by simp [hall j hj]⟩
theorem find_none {p : Nat → Bool} {n : Nat} (hall : ∀ j, j < n → p j = false) : (List.range n).find? p = none := by
  rw [List.find?_eq_none]
  intro x hx
  simp [hall x (List.mem_range.1 hx)]

def mkB : Nat → Int := fun p => if p = 0 then 1 else if p = 1 then 2 else 0
theorem number_bh : ∀ k, k < 8 → ∀ m, m < 8 → eqB (formB mkB (bhP k m)) (formB (formB mkB k) m) = true ∧ ∀ j, j < bhP k m → eqB (formB mkB j) (formB (formB mkB k) m) = false := by decide +kernel
theorem back_bk : ∀ k, k < 8 → eqB (formB (formB mkB k) (bkP k)) mkB = true ∧ ∀ j, j < bkP k → eqB (formB (formB mkB k) j) mkB = false := by decide +kernel
theorem bkP_first : ∀ k, k < 8 → bhP k (bkP k) = 0 ∧ ∀ j, j < bkP k → ¬ bhP k j = 0 := by decide +kernel

/-- A tile alone. -/
def oneB : Nat → Int := fun p => if p = 6 then 1 else 0
def sdS (k d : Nat) : Int := if 4 ≤ k ∧ (d + k) % 4 % 2 = 0 then 2 - (((d + k) % 4 : Nat) : Int) else (((d + k) % 4 : Nat) : Int)
def sdP (k d : Nat) : Nat := (sdS k d).toNat
theorem sd_first : ∀ k, k < 8 → ∀ d, d < 4 → sdP k d < 4 ∧ (sdP k d : Int) = sdS k d ∧ eqB (slB (formB oneB k) (sdP k d)) (formB (slB oneB d) k) = true ∧ ∀ e, e < sdP k d → eqB (slB (formB oneB k) e) (formB (slB oneB d) k) = false := by decide +kernel

end Go.Proofs.Ytjnmdhnckmmdnaa
