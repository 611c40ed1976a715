/-
  Contracts of RowNumber, the program's and the reference's.
-/
import Derived.Test.YtmbmknpjmkgjlaaRow2a
namespace Go.Proofs.Ytmbmknpjmkgjlaa
open Go.RowKit

theorem rowB_true {a b c d : Int} (h : rowB a b c d = true) : (0 ≤ a ∧ a ≤ 17) ∧ (0 ≤ b ∧ b ≤ 17) ∧ (0 ≤ c ∧ c ≤ 17) ∧ (0 ≤ d ∧ d ≤ 17) := by
  simpa [rowB, inB] using h

def rowNum (a b c d : Int) : Int := if rowB a b c d = true then 5832 * a + 324 * b + 18 * c + d else 0

theorem ret_ib {k : IntKind} {a b : Int} {p : Bool} (h : a = b) : Ending.returned (.tuple #[.int k a, .bool p]) = .returned (.tuple #[.int k b, .bool p]) := by rw [h]

set_option maxHeartbeats 1000000 in
theorem rowNumber_any (a b c d : Int) (w : World) :
    Calls Try.prog 37 #[.agg #[.int .i64 a, .int .i64 b, .int .i64 c, .int .i64 d]] w fun e w' => e = .returned (.tuple #[.int .i64 (rowNum a b c d), .bool (rowB a b c d)]) ∧ Below w.heap.size w w' := by
  cases h : rowB a b c d
  · have e0 : rowNum a b c d = 0 := by simp [rowNum, h]
    rw [e0]
    clear e0
    go_enter Try.func37, Try.ntmps37
    go_wp2_with (go_at_call 32; refine (isRow_any _ _ _ _ _).mono ?_; rintro e w1 ⟨rfl, hb1⟩)
    go_ret2
    exact ⟨rfl, below_go (below_new (Below.refl _ _) _) hb1⟩
  · obtain ⟨⟨a0, a1⟩, ⟨b0, b1⟩, ⟨c0, c1⟩, ⟨d0, d1⟩⟩ := rowB_true h
    have e0 : rowNum a b c d = 5832 * a + 324 * b + 18 * c + d := by simp [rowNum, h]
    rw [e0]
    clear e0
    go_enter Try.func37, Try.ntmps37
    go_wp2_with (go_at_call 32; refine (isRow_any _ _ _ _ _).mono ?_; rintro e w1 ⟨rfl, hb1⟩; obtain ⟨hc1, hf1⟩ := bcell hb1; have hz1 : w.heap.size < w1.heap.size := by (have hq := hb1.size; (try simp at hq); omega))
    go_rounds 5
    go_ret2
    exact ⟨ret_ib (by omega), below_go (below_new (Below.refl _ _) _) hb1⟩

set_option maxHeartbeats 1000000 in
theorem specRowNumber_any (a b c d : Int) (w : World) :
    Calls Try.prog 38 #[.agg #[.int .i64 a, .int .i64 b, .int .i64 c, .int .i64 d]] w fun e w' => e = .returned (.tuple #[.int .i64 (rowNum a b c d), .bool (rowB a b c d)]) ∧ Below w.heap.size w w' := by
  cases h : rowB a b c d
  · have e0 : rowNum a b c d = 0 := by simp [rowNum, h]
    rw [e0]
    clear e0
    go_enter Try.func38, Try.ntmps38
    go_wp2_with (go_at_call 43; refine (l4Row_any _ _ _ _ _).mono ?_; rintro e w1 ⟨rfl, hb1⟩)
    go_ret2
    exact ⟨rfl, below_go (below_new (Below.refl _ _) _) hb1⟩
  · obtain ⟨⟨a0, a1⟩, ⟨b0, b1⟩, ⟨c0, c1⟩, ⟨d0, d1⟩⟩ := rowB_true h
    have e0 : rowNum a b c d = 5832 * a + 324 * b + 18 * c + d := by simp [rowNum, h]
    rw [e0]
    clear e0
    go_enter Try.func38, Try.ntmps38
    go_wp2_with (go_at_call 43; refine (l4Row_any _ _ _ _ _).mono ?_; rintro e w1 ⟨rfl, hb1⟩; obtain ⟨hc1, hf1⟩ := bcell hb1; have hz1 : w.heap.size < w1.heap.size := by (have hq := hb1.size; (try simp at hq); omega))
    go_rounds 5
    go_ret2
    exact ⟨ret_ib (by omega), below_go (below_new (Below.refl _ _) _) hb1⟩

end Go.Proofs.Ytmbmknpjmkgjlaa
