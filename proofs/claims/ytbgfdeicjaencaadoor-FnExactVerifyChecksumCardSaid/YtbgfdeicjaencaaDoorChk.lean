/-
  Contracts: the checksum of a string.
-/
import Derived.Test.YtbgfdeicjaencaaDoorFmt
import Derived.Test.YtbgfdeicjaencaaDoorStand
namespace Go.Proofs.YtbgfdeicjaencaaDoor
open Go.RowKit

def ckTo (s : ByteArray) : Nat → Nat
  | 0 => 7
  | k + 1 => (41 * ckTo s k + (s.data.toList.getD k 0).toNat + 1) % 999979
theorem ckTo_lt (s : ByteArray) : ∀ k, ckTo s k < 999979
  | 0 => by show 7 < 999979; omega
  | k + 1 => Nat.mod_lt _ (by decide)
theorem byte_at (s : ByteArray) (k : Nat) (h : k < s.size) : s.data.toList.getD k 0 = s[k] := by
  have h2 : k < s.data.toList.length := by simpa using h
  rw [List.getD, List.getElem?_eq_getElem h2]; rfl
def ckS (s : ByteArray) : Nat := ckTo s s.size

set_option maxRecDepth 100000 in
set_option maxHeartbeats 4000000 in
theorem l1Sum_any (s : ByteArray) (hs : s.size ≤ 9223372036854775807) (w : World) : Calls Tryd.prog 57 #[.string s] w fun e w' => e = .returned (.int .i64 (ckS s : Int)) ∧ w = w' := by
  go_enter Tryd.func57, Tryd.ntmps57
  go_wp2
  go_loop [3, 4] (fun v i => ∃ k : Nat, k ≤ s.size ∧ i = .int .i64 k ∧ v = .int .i64 (ckTo s k : Int)) (fun _ i => s.size - (intOf i).toNat)
  case atStart => exact ⟨0, Nat.zero_le _, rfl, rfl⟩
  case round =>
    obtain ⟨k, hk, rfl, rfl⟩ := hrel
    by_cases hlt : k < s.size
    · have a1 : (0 : Int) ≤ k := by omega
      have a2 : (k : Int) < s.size := by omega
      have hc := ckTo_lt s k
      have c0 : (0 : Int) ≤ ckTo s k := by omega
      have c1 : (ckTo s k : Int) < 999979 := by omega
      have hb : s[k].toNat < 256 := s[k].toNat_lt
      have HS : Hid (ckTo s (k + 1) = (41 * ckTo s k + s[k].toNat + 1) % 999979) := by
        show (41 * ckTo s k + (s.data.toList.getD k 0).toNat + 1) % 999979 = _
        rw [byte_at s k hlt]
      go_wp2
      go_round
      case rel => exact ⟨k + 1, by omega, by go_num, by rw [HS.out]; go_num⟩
      case measure => simp [intOf]; omega
    · obtain rfl : k = s.size := by omega
      go_wp2
      go_ret
      exact ⟨rfl, rfl⟩

set_option maxRecDepth 100000 in
set_option maxHeartbeats 4000000 in
theorem checksum_any (s : ByteArray) (hs : s.size ≤ 9223372036854775807) (w : World) : Calls Tryd.prog 44 #[.string s] w fun e w' => e = .returned (.tuple #[.int .i64 (if s.size ≤ 4000 then (ckS s : Int) else 0), .bool (decide (s.size ≤ 4000))]) ∧ w = w' := by
  by_cases h4 : s.size ≤ 4000
  · have hI : (s.size : Int) ≤ 4000 := by omega
    have e1 : decide ((s.size : Int) > 4000) = false := decide_eq_false (by omega)
    rw [if_pos h4, decide_eq_true h4]
    go_enter Tryd.func44, Tryd.ntmps44
    go_wp2
    go_loop [4, 11] (fun v i => ∃ k : Nat, k ≤ s.size ∧ i = .int .i64 k ∧ v = .int .i64 (ckTo s k : Int)) (fun _ i => s.size - (intOf i).toNat)
    case atStart => exact ⟨0, Nat.zero_le _, rfl, rfl⟩
    case round =>
      obtain ⟨k, hk, rfl, rfl⟩ := hrel
      by_cases hlt : k < s.size
      · have a1 : (0 : Int) ≤ k := by omega
        have a2 : (k : Int) < s.size := by omega
        have hc := ckTo_lt s k
        have c0 : (0 : Int) ≤ ckTo s k := by omega
        have c1 : (ckTo s k : Int) < 999979 := by omega
        have hb : s[k].toNat < 256 := s[k].toNat_lt
        have HS : Hid (ckTo s (k + 1) = (41 * ckTo s k + s[k].toNat + 1) % 999979) := by
          show (41 * ckTo s k + (s.data.toList.getD k 0).toNat + 1) % 999979 = _
          rw [byte_at s k hlt]
        go_wp2
        go_round
        case rel => exact ⟨k + 1, by omega, by go_num, by rw [HS.out]; go_num⟩
        case measure => simp [intOf]; omega
      · obtain rfl : k = s.size := by omega
        go_wp2
        go_ret2
        exact ⟨rfl, rfl⟩
  · have hI : 4000 < (s.size : Int) := by omega
    have e1 : decide ((s.size : Int) > 4000) = true := decide_eq_true (by omega)
    rw [if_neg h4, decide_eq_false h4]
    go_enter Tryd.func44, Tryd.ntmps44
    go_wp2
    go_ret2
    exact ⟨rfl, rfl⟩

end Go.Proofs.YtbgfdeicjaencaaDoor
