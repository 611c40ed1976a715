/-
  Contracts: whether a byte stands in a string.
-/
import Derived.Test.YtbgfdeicjaencaaDoorBase0
import Derived.Test.YtbgfdeicjaencaaDoorShelf
import Derived.Lib.IndexAny
namespace Go.Proofs.YtbgfdeicjaencaaDoor
open Go.RowKit

def stB (s : ByteArray) (c : UInt8) : Bool := s.data.toList.contains c
theorem Calls.bool_eq {P : Program} {f : FuncId} {args : Array Value} {w : World} {a b : Bool} (h : Calls P f args w fun e w' => e = .returned (.bool a) ∧ w = w') (e : a = b) : Calls P f args w fun e w' => e = .returned (.bool b) ∧ w = w' := e ▸ h
theorem data_get (s : ByteArray) (k : Nat) (h : k < s.size) : s.data.toList[k]'(by simpa using h) = s[k] := rfl
theorem stB_true {s : ByteArray} {c : UInt8} {k : Nat} (h : k < s.size) (e : s[k] = c) : stB s c = true := by
  unfold stB
  rw [List.contains_iff_mem, ← e, ← data_get s k h]
  exact List.getElem_mem _
theorem stB_false {s : ByteArray} {c : UInt8} (h : ∀ j (hj : j < s.size), s[j] ≠ c) : stB s c = false := by
  cases hs : stB s c
  · rfl
  · unfold stB at hs
    rw [List.contains_iff_mem, List.mem_iff_getElem] at hs
    obtain ⟨j, hj, e⟩ := hs
    exact absurd e (h j (by simpa using hj))
set_option maxRecDepth 100000 in
set_option maxHeartbeats 4000000 in
theorem l1Stands_any (s : ByteArray) (c : UInt8) (hs : s.size ≤ 9223372036854775807) (w : World) : Calls Tryd.prog 42 #[.string s, .int .u8 (c.toNat : Int)] w fun e w' => e = .returned (.bool (stB s c)) ∧ w = w' := by
  go_enter Tryd.func42, Tryd.ntmps42
  go_wp2
  go_loop [5] (fun i => ∃ k : Nat, k ≤ s.size ∧ i = .int .i64 k ∧ Hid (∀ j, j < k → ∀ hj : j < s.size, s[j] ≠ c)) (fun i => s.size - (intOf i).toNat)
  case atStart => exact ⟨0, Nat.zero_le _, rfl, hide (fun j hj => absurd hj (Nat.not_lt_zero _))⟩
  case round =>
    obtain ⟨k, hk, rfl, hall⟩ := hrel
    by_cases hlt : k < s.size
    · have a1 : (0 : Int) ≤ k := by omega
      have a2 : (k : Int) < s.size := by omega
      by_cases he : s[k] = c
      · have e1 : ((s[k].toNat : Int) == (c.toNat : Int)) = true := by rw [he]; simp
        have HE := hide (stB_true hlt he)
        clear he
        go_wp2
        go_ret
        exact ⟨ret_bool HE.out.symm, rfl⟩
      · have e1 : ((s[k].toNat : Int) == (c.toNat : Int)) = false := by
          simp only [beq_eq_false_iff_ne, ne_eq]
          intro h
          exact he (UInt8.toNat_inj.1 (by omega))
        have HE := hide he
        clear he
        go_wp2
        go_round
        case rel => exact ⟨k + 1, by omega, by go_num, hide (fun j hj hj2 => by
          rcases (by omega : j < k ∨ j = k) with h | rfl
          · exact hall.out j h hj2
          · exact HE.out)⟩
        case measure => simp [intOf]; omega
    · obtain rfl : k = s.size := by omega
      go_wp2
      go_ret
      exact ⟨ret_bool (stB_false fun j hj => hall.out j hj hj).symm, rfl⟩
theorem contains_st (s : ByteArray) (c : UInt8) (w : World) : Calls Tryd.prog 45 #[.string s, .string ⟨#[c]⟩] w fun e w' => e = .returned (.bool (stB s c)) ∧ w = w' :=
  (Tryd.strings_Contains_one s c w).mono fun e w' ⟨he, hw⟩ => ⟨by rw [he, stB, Lib.contains_iff_indexByte], hw.symm⟩

end Go.Proofs.YtbgfdeicjaencaaDoor
