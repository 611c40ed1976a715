/-
  Words for VerifyChecksum: the part ahead of the first '#'.
-/
import Derived.Test.YtbgfdeicjaencaaDoorAppI
import Derived.Lib.IndexBytes
namespace Go.Proofs.YtbgfdeicjaencaaDoor
open Go.RowKit

/-- The part of a string ahead of its first '#'. -/
def hdL (l : List UInt8) : List UInt8 := l.takeWhile (· != 35)
def hdS (s : ByteArray) : ByteArray := mkS (hdL s.data.toList)
theorem hdL_cons {a : UInt8} {l : List UInt8} (h : a ≠ 35) : hdL (a :: l) = a :: hdL l := by
  simp [hdL, List.takeWhile_cons, h]
theorem hdL_not (l : List UInt8) : (hdL l).contains 35 = false := by
  induction l with
  | nil => rfl
  | cons a l ih =>
    by_cases h : a = 35
    · subst h; rfl
    · rw [hdL_cons h, List.contains_cons, ih]
      simp; exact fun e => h e.symm
theorem idx_hd (l : List UInt8) : (Lib.indexByte l 35 = -1 ∧ hdL l = l) ∨ (Lib.indexByte l 35 = (hdL l).length ∧ (hdL l).length < l.length ∧ hdL l = l.take (hdL l).length) := by
  induction l with
  | nil => exact Or.inl ⟨rfl, rfl⟩
  | cons a l ih =>
    by_cases h : a = 35
    · subst h
      exact Or.inr ⟨rfl, by simp [hdL], rfl⟩
    · have h2 : (a != 35) = true := by simpa using h
      have h3 : (a == 35) = false := by simpa using h
      have e : hdL (a :: l) = a :: hdL l := hdL_cons h
      rcases ih with ⟨h4, h5⟩ | ⟨h4, h5, h6⟩
      · left
        refine ⟨?_, by rw [e, h5]⟩
        simp [Lib.indexByte, h3, h4]
      · right
        have h7 : ((Lib.indexByte l 35) == -1) = false := by rw [h4]; simp
        refine ⟨?_, by rw [e]; simp; omega, by rw [e]; simpa using h6⟩
        rw [e]
        simp only [Lib.indexByte, h3, h7, List.length_cons]
        simp [h4]
def vfOk (s : ByteArray) : Bool := decide (s.size ≤ 4000) && decide (slS (hdS s) = s)
def vfS (s : ByteArray) : ByteArray := if vfOk s = true then hdS s else ⟨#[]⟩

end Go.Proofs.YtbgfdeicjaencaaDoor
