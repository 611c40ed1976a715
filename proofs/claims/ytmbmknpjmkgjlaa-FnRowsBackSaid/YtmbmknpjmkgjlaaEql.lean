/-
  Comparison of rows and boards by '=='.
-/
import Derived.Test.YtmbmknpjmkgjlaaBase
namespace Go.Proofs.Ytmbmknpjmkgjlaa
open Go.RowKit

def allEq (x y : Nat → Int) (n : Nat) : Bool := decide (∀ i, i < n → x i = y i)
theorem allEq_zero (x y : Nat → Int) : allEq x y 0 = true := by simp [allEq]
theorem allEq_succ (x y : Nat → Int) (n : Nat) : allEq x y (n + 1) = (allEq x y n && decide (x n = y n)) := by
  rw [Bool.eq_iff_iff]
  simp only [allEq, decide_eq_true_eq, Bool.and_eq_true]
  constructor
  · exact fun h => ⟨fun i hi => h i (by omega), h n (by omega)⟩
  · intro h i hi
    rcases Nat.lt_or_ge i n with h1 | h1
    · exact h.1 i h1
    · obtain rfl : i = n := by omega
      exact h.2

theorem run_eqLoop {P : Program} {w : World} (q : Nat → Bool) (body : Nat → Option Bool × Unit → Sem (ForInStep (Option Bool × Unit))) : ∀ (l : List Nat), (∀ i, i ∈ l → ∀ s, (body i s).run P w = .ok (if q i = true then .yield (none, ()) else .done (some false, ())) w) →
    (forIn l (none, ()) body).run P w = .ok (if l.all q = true then (none, ()) else (some false, ())) w
  | [], _ => rfl
  | i :: l, h => by
    rw [List.forIn_cons]
    have h1 := h i (by simp) (none, ())
    simp only [Sem.run_bind, h1, Result.andThen_ok]
    cases hq : q i
    · simp [hq]
    · simp only [if_true, List.all_cons, hq, Bool.true_and]
      exact run_eqLoop q body l fun j hj s => h j (by simp [hj]) s

theorem equalIn_int (d : Nat) (a b : Int) (w : World) : (Op.equalIn (d + 1) 3 (.int .i64 a) (.int .i64 b)).run Try.prog w = .ok (a == b) w := by kernel_rfl
theorem size_int (w : World) : (sizeOf 3).run Try.prog w = .ok 1 w := by kernel_rfl
theorem size_A4 (w : World) : (sizeOf 22).run Try.prog w = .ok 4 w := by kernel_rfl

theorem part_A4 (v0 v1 v2 v3 : Value) (i : Nat) (hi : i < 4) (w : World) : (part 3 #[v0, v1, v2, v3] i).run Try.prog w = .ok ((#[v0, v1, v2, v3] : Array Value).getD i undef) w := by
  rcases (by omega : i = 0 ∨ i = 1 ∨ i = 2 ∨ i = 3) with rfl | rfl | rfl | rfl <;> kernel_rfl

theorem equalIn_A4 (d : Nat) (a b : Nat → Int) (w : World) : (Op.equalIn (d + 2) 22 (.agg #[.int .i64 (a 0), .int .i64 (a 1), .int .i64 (a 2), .int .i64 (a 3)]) (.agg #[.int .i64 (b 0), .int .i64 (b 1), .int .i64 (b 2), .int .i64 (b 3)])).run Try.prog w = .ok (allEq a b 4) w := by
  have u := run_underlying (P := Try.prog) Try.underlying22
  have ea : ∀ i, i < 4 → (part 3 #[.int .i64 (a 0), .int .i64 (a 1), .int .i64 (a 2), .int .i64 (a 3)] i).run Try.prog w = .ok (.int .i64 (a i)) w := fun i hi => by
    rcases (by omega : i = 0 ∨ i = 1 ∨ i = 2 ∨ i = 3) with rfl | rfl | rfl | rfl <;> kernel_rfl
  have eb : ∀ i, i < 4 → (part 3 #[.int .i64 (b 0), .int .i64 (b 1), .int .i64 (b 2), .int .i64 (b 3)] i).run Try.prog w = .ok (.int .i64 (b i)) w := fun i hi => by
    rcases (by omega : i = 0 ∨ i = 1 ∨ i = 2 ∨ i = 3) with rfl | rfl | rfl | rfl <;> kernel_rfl
  rw [Op.equalIn]
  simp [u]
  rw [run_eqLoop (fun i => a i == b i) _ (List.range' 0 4) (fun i hi s => by
    have hi4 : i < 4 := by simpa [List.mem_range'] using hi
    simp only [Sem.run_bind, ea i hi4, eb i hi4, Result.andThen_ok, equalIn_int]
    cases a i == b i <;> rfl)]
  have e : (List.range' 0 4).all (fun i => a i == b i) = allEq a b 4 := by
    have : List.range' 0 4 = [0, 1, 2, 3] := rfl
    rw [this]
    rw [Bool.eq_iff_iff]
    simp [allEq_succ, allEq_zero, and_assoc]
  rw [e]
  cases allEq a b 4 <;> rfl

theorem run_eql_A4 (a b : Nat → Int) (w : World) : (binOp .eql 22 (.agg #[.int .i64 (a 0), .int .i64 (a 1), .int .i64 (a 2), .int .i64 (a 3)]) (.agg #[.int .i64 (b 0), .int .i64 (b 1), .int .i64 (b 2), .int .i64 (b 3)])).run Try.prog w = .ok (.bool (allEq a b 4)) w := by
  simp only [binOp, Op.equal, Op.maxDepth]
  simp [equalIn_A4]

end Go.Proofs.Ytmbmknpjmkgjlaa
