/-
  Contracts: whether a number is among others; the rows that have some tiles in order (the reference's).
-/
import Derived.Test.YtmbmknpjmkgjlaaAddR
import Derived.Test.YtmbmknpjmkgjlaaPriorR
import Derived.Test.YtmbmknpjmkgjlaaApR
namespace Go.Proofs.Ytmbmknpjmkgjlaa
open Go.RowKit

theorem bit_any (c k : Nat) (hc : c < 16) (hk : k < 4) : bits BinOp.and IntKind.i64 ((c : Int) / 2 ^ k) 1 = ((c / 2 ^ k % 2 : Nat) : Int) := by
  rcases (by omega : c = 0 ∨ c = 1 ∨ c = 2 ∨ c = 3 ∨ c = 4 ∨ c = 5 ∨ c = 6 ∨ c = 7 ∨ c = 8 ∨ c = 9 ∨ c = 10 ∨ c = 11 ∨ c = 12 ∨ c = 13 ∨ c = 14 ∨ c = 15) with rfl | rfl | rfl | rfl | rfl | rfl | rfl | rfl | rfl | rfl | rfl | rfl | rfl | rfl | rfl | rfl <;> rcases p4 hk with rfl | rfl | rfl | rfl <;> kernel_rfl

set_option maxHeartbeats 4000000 in
theorem l1Has_any (w : World) (q : Option Nat) (A : Option Addr) (n cap : Nat) (l : List Int) (hn : n = l.length) (hl : l.length ≤ 65536) (h : NumsAt w q A l) (x : Int) :
    Calls Try.prog 68 #[.slice A n cap, .int .i64 x] w fun e w' => e = .returned (.bool (decide (x ∈ l))) ∧ w = w' := by
  subst hn
  rcases Nat.eq_zero_or_pos l.length with h0 | h0
  · obtain rfl := List.eq_nil_of_length_eq_zero h0
    clear h
    go_enter Try.func68, Try.ntmps68
    go_wp2
    refine wp_loop_rounds 1 ?_
    rw [rounds_succ]
    go_wp2
    go_ret
    exact ⟨by simp, rfl⟩
  · obtain ⟨g, o, N, c, rfl, -, hle, hH, hc⟩ := h h0
    have HH := hide hH
    have HC := hide hc
    clear hH hc
    have hmem : Hid (∀ j, j < l.length → c (o + j) ∈ l) := hide fun j hj => by
      rw [HC.out j hj]
      simp [List.getD, hj]
    go_enter Try.func68, Try.ntmps68
    go_wp2
    go_loop [5] (fun v => ∃ k : Nat, k ≤ l.length ∧ v = .int .i64 k ∧ Hid (∀ j, j < k → c (o + j) ≠ x)) (fun i => l.length - (intOf i).toNat)
    case atStart => exact ⟨0, by omega, rfl, hide fun j hj => absurd hj (Nat.not_lt_zero _)⟩
    case round =>
      obtain ⟨k, hk, rfl, hall⟩ := hrel
      by_cases hlt : k < l.length
      · have a0 : (0 : Int) ≤ k := by omega
        have a1 : (k : Int) < l.length := by omega
        have q1 : w.cell? ⟨g, o + k, none⟩ = some (.int .i64 (c (o + k))) := HH.out.1 _ (by omega)
        have HM := hide (hmem.out k hlt)
        by_cases he : c (o + k) = x
        · have HE := hide he
          have he' : (c (o + k) == x) = true := by simpa using he
          clear he
          go_wp2
          go_ret
          exact ⟨ret_bool (by have h1 := HE.out; have h2 := HM.out; first | exact (decide_eq_true h2).symm | (rw [h1] at h2; exact (decide_eq_true h2).symm)), rfl⟩
        · have HE := hide he
          have he' : (c (o + k) == x) = false := by simpa using he
          clear he
          go_wp2
          go_round
          case rel => exact ⟨k + 1, by omega, by go_num, hide (all_succ hall.out HE.out)⟩
          case measure => simp [intOf]; omega
      · obtain rfl : k = l.length := by omega
        have HN : Hid (decide (x ∈ l) = false) := hide (decide_eq_false fun hx => by
          obtain ⟨j, hj, he⟩ := List.getElem_of_mem hx
          refine hall.out j hj ?_
          rw [HC.out j hj]
          simp [List.getD, hj, he])
        go_wp2
        go_ret
        exact ⟨ret_bool HN.out.symm, rfl⟩

end Go.Proofs.Ytmbmknpjmkgjlaa
