/-
  Words for loops over all cells of a board.
-/
import Derived.Test.YtmjehagmgifchaaCells
import Derived.Deep.Cut
namespace Go.Proofs.Ytmjehagmgifchaa
open Go.RowKit

theorem cell_xy {wr : World} {g k : Nat} (hC : Has wr g 32 (fun p => .int .i64 (cellC p))) (hk : k < 16) :
    ∃ x y : Int, 0 ≤ x ∧ x < 4 ∧ 0 ≤ y ∧ y < 4 ∧ Hid (x = (k : Int) / 4 ∧ y = (k : Int) % 4) ∧ Hid (x.toNat * 4 + y.toNat = k) ∧ wr.cell? ⟨g, k * 2, none⟩ = some (.int .i64 x) ∧ wr.cell? ⟨g, k * 2 + 1, none⟩ = some (.int .i64 y) := by
  have e1 : cellC (k * 2) = (k : Int) / 4 := by unfold cellC; rw [if_pos (by omega)]; omega
  have e2 : cellC (k * 2 + 1) = (k : Int) % 4 := by unfold cellC; rw [if_neg (by omega)]; omega
  refine ⟨(k : Int) / 4, (k : Int) % 4, by omega, by omega, by omega, by omega, hide ⟨rfl, rfl⟩, hide (by omega), ?_, ?_⟩
  · exact (hC.1 _ (by omega)).trans (by simp only [e1])
  · exact (hC.1 _ (by omega)).trans (by simp only [e2])

theorem at_xy (B k : Nat) (x y : Int) (hx0 : 0 ≤ x) (hx3 : x < 4) (hy0 : 0 ≤ y) (hy3 : y < 4) (hxy : Hid (x.toNat * 4 + y.toNat = k)) (w : World) :
    Calls Try.prog 84 #[.pointer (some ⟨B, 0, none⟩), .agg #[.int .i64 x, .int .i64 y]] w fun e w' => e = .returned (.pointer (some ⟨B, k, none⟩)) ∧ Below w.heap.size w w' := by
  have h := at_any B x y hx0 hx3 hy0 hy3 w
  rw [hxy.out] at h
  exact h

end Go.Proofs.Ytmjehagmgifchaa
