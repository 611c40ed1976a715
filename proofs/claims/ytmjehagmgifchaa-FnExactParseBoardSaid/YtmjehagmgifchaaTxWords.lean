/-
  Words for the text of a board.
-/
import Derived.Test.YtmjehagmgifchaaCellLoop
namespace Go.Proofs.Ytmjehagmgifchaa
open Go.RowKit

def tileL : List UInt8 := [46, 97, 98, 99, 100, 101, 102, 103, 104, 105, 106, 107, 108, 109, 110, 111, 112, 113]
def ltr (t : Nat) : UInt8 := tileL.getD t 0
def rwT (b : Nat → Int) (r : Nat) (c : Nat) : List UInt8 := (List.range c).map fun k => ltr (b (4 * r + k)).toNat
def preT (b : Nat → Int) : Nat → List UInt8
  | 0 => []
  | r + 1 => (if r = 0 then [] else preT b r ++ [47]) ++ rwT b r 4
def hdT (b : Nat → Int) (r : Nat) : List UInt8 := if r = 0 then [] else preT b r ++ [47]
def txL (b : Nat → Int) : List UInt8 := preT b 4
def mkS (l : List UInt8) : ByteArray := ⟨l.toArray⟩
theorem mkS_app (l m : List UInt8) : mkS l ++ ⟨m.toArray⟩ = mkS (l ++ m) := by
  apply ByteArray.ext
  simp [mkS]
theorem rwT_succ (b : Nat → Int) (r c : Nat) : rwT b r (c + 1) = rwT b r c ++ [ltr (b (4 * r + c)).toNat] := by simp [rwT, List.range_succ]
theorem preT_succ (b : Nat → Int) (r : Nat) : preT b (r + 1) = hdT b r ++ rwT b r 4 := rfl
theorem tile_sub : ∀ t : Nat, t < 18 → ((⟨#[46, 97, 98, 99, 100, 101, 102, 103, 104, 105, 106, 107, 108, 109, 110, 111, 112, 113]⟩ : ByteArray).extract t (t + 1)) = mkS [ltr t] := by decide
theorem mkS_size (l : List UInt8) : (mkS l).size = l.length := by simp [mkS, ByteArray.size]
theorem rwT_len (b : Nat → Int) (r c : Nat) : (rwT b r c).length = c := by simp [rwT]

theorem preT_len (b : Nat → Int) : ∀ r, (preT b r).length ≤ 5 * r
  | 0 => by simp [preT]
  | r + 1 => by
    have := preT_len b r
    by_cases h : r = 0 <;> simp [preT, h, rwT_len] <;> omega
theorem preT_size (b : Nat → Int) (r : Nat) (h : r ≤ 4) : (mkS (preT b r)).size ≤ 20 := by
  have := preT_len b r
  rw [mkS_size]; omega
theorem hdT_size (b : Nat → Int) (r c : Nat) (h : r < 4) (hc : c ≤ 4) : (mkS (hdT b r ++ rwT b r c)).size ≤ 30 := by
  have := preT_len b r
  rw [mkS_size, List.length_append, rwT_len]
  unfold hdT
  split
  · simp; omega
  · simp; omega
theorem txL_len (b : Nat → Int) : (txL b).length = 19 := by
  simp [txL, preT, rwT_len]

end Go.Proofs.Ytmjehagmgifchaa
