/-
  Words for lists of rows of four in order.
-/
import Derived.Test.YtmbmknpjmkgjlaaOrdWords
import Derived.Test.YtmbmknpjmkgjlaaSl
namespace Go.Proofs.Ytmbmknpjmkgjlaa
open Go.RowKit

def eqR (a b : Nat → Int) : Bool := decide (a 0 = b 0 ∧ a 1 = b 1 ∧ a 2 = b 2 ∧ a 3 = b 3)
def ltR (a b : Nat → Int) : Bool := decide (a 0 < b 0 ∨ (a 0 = b 0 ∧ (a 1 < b 1 ∨ (a 1 = b 1 ∧ (a 2 < b 2 ∨ (a 2 = b 2 ∧ a 3 < b 3))))))
theorem eqR_true {a b : Nat → Int} : eqR a b = true ↔ ∀ i, i < 4 → a i = b i := by
  simp only [eqR, decide_eq_true_eq]
  constructor
  · rintro ⟨h0, h1, h2, h3⟩ i hi
    match i, hi with
    | 0, _ => exact h0
    | 1, _ => exact h1
    | 2, _ => exact h2
    | 3, _ => exact h3
  · exact fun h => ⟨h 0 (by omega), h 1 (by omega), h 2 (by omega), h 3 (by omega)⟩
theorem ordR : OrdB ltR eqR where
  refl a := by simp [eqR]
  symm a b h := by simp only [eqR, decide_eq_true_eq] at *; omega
  etrans a b c h k := by simp only [eqR, decide_eq_true_eq] at *; omega
  irrefl a b h := by simp only [eqR, ltR, decide_eq_true_eq, decide_eq_false_iff_not] at *; omega
  trans a b c h k := by simp only [ltR, decide_eq_true_eq] at *; omega
  total a b h k := by simp only [eqR, ltR, decide_eq_true_eq, decide_eq_false_iff_not] at *; omega
  congr a b c d h k := by
    simp only [eqR, decide_eq_true_eq] at h k
    simp only [ltR, h, k]
def atR (l : List (Nat → Int)) (i : Nat) : Nat → Int := l.getD i (fun _ => 0)
def c4 (b : Nat → Int) : List Value := [.int .i64 (b 0), .int .i64 (b 1), .int .i64 (b 2), .int .i64 (b 3)]
/-- The cells of a list of rows. -/
def rsV (l : List (Nat → Int)) : List Value := l.flatMap c4
theorem rsV_app (l m : List (Nat → Int)) : rsV (l ++ m) = rsV l ++ rsV m := List.flatMap_append
theorem rsV_one (b : Nat → Int) : rsV [b] = c4 b := by simp [rsV]
theorem rsV_snoc (l : List (Nat → Int)) (b : Nat → Int) : rsV (l ++ [b]) = rsV l ++ c4 b := by rw [rsV_app, rsV_one]
theorem rsV_cons (b : Nat → Int) (l : List (Nat → Int)) : rsV (b :: l) = c4 b ++ rsV l := by simp [rsV]
theorem rsV_len : ∀ l : List (Nat → Int), (rsV l).length = l.length * 4
  | [] => rfl
  | b :: l => by rw [rsV_cons, List.length_append, rsV_len l, List.length_cons]; simp [c4]; omega
theorem rsV_ints : ∀ (l : List (Nat → Int)) (u : Value), u ∈ rsV l → u.oneCell' = true := by
  intro l u hu
  obtain ⟨b, _, h⟩ := List.mem_flatMap.1 hu
  simp only [c4, List.mem_cons, List.not_mem_nil, or_false] at h
  rcases h with rfl | rfl | rfl | rfl <;> rfl
theorem rsV_drop : ∀ (n : Nat) (l : List (Nat → Int)), rsV (l.drop n) = (rsV l).drop (n * 4)
  | 0, l => by simp
  | n + 1, [] => by simp [rsV]
  | n + 1, b :: l => by
    rw [List.drop_succ_cons, rsV_drop n l, rsV_cons, show (n + 1) * 4 = 4 + n * 4 by omega, ← List.drop_drop]
    rfl
theorem rsV_take : ∀ (n : Nat) (l : List (Nat → Int)), rsV (l.take n) = (rsV l).take (n * 4)
  | 0, l => by simp [rsV]
  | n + 1, [] => by simp [rsV]
  | n + 1, b :: l => by
    rw [List.take_succ_cons, rsV_cons, rsV_take n l, rsV_cons, show (n + 1) * 4 = 4 + n * 4 by omega, List.take_add]
    rfl
/-- The lists of tiles out of which given tiles may have come (the program's order). -/
def apL : List Int → List Int → List (List Int)
  | d, [] => if 4 < d.length then [] else [d]
  | d, t :: r => if 4 < d.length then [] else apL (d ++ [t]) r ++ (if 1 < t then apL (d ++ [t - 1, t - 1]) r else [])
/-- The same by the bits of a number (the reference's order). -/
def exL (code : Nat) : Nat → List Int → List Int
  | _, [] => []
  | k, t :: r => (if code / 2 ^ k % 2 = 1 then [t - 1, t - 1] else [t]) ++ exL code (k + 1) r
/-- Tiles spread over the places whose bits are set, with what is left of them. -/
def sprR (code : Nat) : Nat → List Int → List Int × Nat
  | 0, _ => ([], 0)
  | n + 1, ts => if code % 2 = 1 then (let q := sprR (code / 2) n (ts.drop 1); (ts.headD 0 :: q.1, q.2 + 1)) else (let q := sprR (code / 2) n ts; (0 :: q.1, q.2))

end Go.Proofs.Ytmbmknpjmkgjlaa
