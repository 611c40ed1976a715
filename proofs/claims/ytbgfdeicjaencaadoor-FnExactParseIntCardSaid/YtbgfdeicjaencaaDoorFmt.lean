/-
  Contracts: FormatInt, the program's and the reference's.
-/
import Derived.Test.YtbgfdeicjaencaaDoorNum
import Derived.Test.YtbgfdeicjaencaaDoorShelf
import Derived.Lib.AppendIntMem
namespace Go.Proofs.YtbgfdeicjaencaaDoor
open Go.RowKit

def fmOk (n : Int) : Bool := decide (-999999 ≤ n) && decide (n ≤ 999999)
def fmS (n : Int) : ByteArray := if fmOk n = true then mkS (Lib.itoa n) else ⟨#[]⟩
theorem fm_in {n : Int} (h : fmOk n = true) : -999999 ≤ n ∧ n ≤ 999999 := by simpa [fmOk] using h
theorem fm_out {n : Int} (h : fmOk n = false) : n < -999999 ∨ 999999 < n := by
  simp [fmOk] at h; omega
def TabB (w : World) : Prop := Lib.TabBelow Tryd.prog w.heap.size w "internal/strconv.uint64pow10" .u64 Lib.pow10Tab
theorem TabB.call {w w2 : World} (h : TabB w) (hb : Below w.heap.size w w2) : TabB w2 := Lib.tabBelow_of_tabIs (h w2 hb)

set_option maxRecDepth 100000 in
theorem specFormatInt_any (n : Int) (w : World) : Calls Tryd.prog 10 #[.int .i64 n] w fun e w' => e = .returned (.tuple #[.string (fmS n), .bool (fmOk n)]) ∧ Below w.heap.size w w' := by
  cases h : fmOk n
  · have e0 : fmS n = ⟨#[]⟩ := by simp [fmS, h]
    rw [e0]
    rcases fm_out h with h1 | h1
    · have e1 : decide (-999999 ≤ n) = false := decide_eq_false (by omega)
      have h2 : ¬ -999999 ≤ n := by omega
      clear h e0
      go_enter Tryd.func10, Tryd.ntmps10
      go_wp2_with (go_in)
      go_ret2
      exact ⟨rfl, Below.refl _ _⟩
    · have e1 : decide (-999999 ≤ n) = true := decide_eq_true (by omega)
      have e2 : decide (n ≤ 999999) = false := decide_eq_false (by omega)
      have h2 : -999999 ≤ n := by omega
      have h3 : ¬ n ≤ 999999 := by omega
      clear h e0
      go_enter Tryd.func10, Tryd.ntmps10
      go_wp2_with ((go_at_call 35); go_in)
      go_ret2
      exact ⟨rfl, Below.refl _ _⟩
  · have e0 : fmS n = mkS (Lib.itoa n) := by simp [fmS, h]
    rw [e0]
    obtain ⟨h1, h2⟩ := fm_in h
    clear h e0
    go_enter Tryd.func10, Tryd.ntmps10
    go_wp2_with (first | (go_at_call 35; go_in) | (go_at_call 36; (with_reducible refine (l1Num_any n (by omega) (by omega) _).mono ?_); rintro e w2 ⟨rfl, hb2⟩))
    all_goals
      go_ret2
      exact ⟨rfl, hb2⟩

set_option maxRecDepth 100000 in
theorem implFormatInt_any (n : Int) (w : World) (ht : TabB w) : Calls Tryd.prog 11 #[.int .i64 n] w fun e w' => e = .returned (.tuple #[.string (fmS n), .bool (fmOk n)]) ∧ Below w.heap.size w w' := by
  have HT := hide ht
  clear ht
  cases h : fmOk n
  · have e0 : fmS n = ⟨#[]⟩ := by simp [fmS, h]
    rw [e0]
    rcases fm_out h with h1 | h1
    · have e1 : decide (-999999 ≤ n) = false := decide_eq_false (by omega)
      have h2 : ¬ -999999 ≤ n := by omega
      clear h e0
      go_enter Tryd.func11, Tryd.ntmps11
      go_wp2_with (go_in)
      go_ret2
      exact ⟨rfl, Below.refl _ _⟩
    · have e1 : decide (-999999 ≤ n) = true := decide_eq_true (by omega)
      have e2 : decide (n ≤ 999999) = false := decide_eq_false (by omega)
      have h2 : -999999 ≤ n := by omega
      have h3 : ¬ n ≤ 999999 := by omega
      clear h e0
      go_enter Tryd.func11, Tryd.ntmps11
      go_wp2_with ((go_at_call 37); go_in)
      go_ret2
      exact ⟨rfl, Below.refl _ _⟩
  · have e0 : fmS n = mkS (Lib.itoa n) := by simp [fmS, h]
    rw [e0]
    obtain ⟨h1, h2⟩ := fm_in h
    clear h e0
    go_enter Tryd.func11, Tryd.ntmps11
    go_wp2_with (first | (go_at_call 37; go_in) | (go_at_call 38; (refine (Tryd.strconv_Itoa n (by omega) (by omega) _ HT.out.here).mono ?_); rintro e w2 ⟨rfl, k, os, rfl⟩))
    all_goals
      go_ret2
      exact ⟨rfl, Lib.below_grow _ _ (Nat.le_refl _) _ _⟩

end Go.Proofs.YtbgfdeicjaencaaDoor
