/-
  Contract: equality of equal lists.
-/
import Derived.Test.YtjnmdhnckmmdnaaIntS
namespace Go.Proofs.Ytjnmdhnckmmdnaa
open Go.RowKit

set_option maxHeartbeats 4000000 in
theorem eqIntS_big (w : World) (A A' : Option Addr) (B B' n c1 c2 : Nat) (f : Nat → Int) (hn : n ≤ 1048576) (hS : Sl w B A n (fun o => .int .i64 (f o))) (hS' : Sl w B' A' n (fun o => .int .i64 (f o))) :
    Calls Try.prog 61 #[.slice A n c1, .slice A' n c2] w fun e w' => e = .returned (.bool true) ∧ Below w.heap.size w w' := by
  rcases Nat.eq_zero_or_pos n with h0 | h0
  · subst h0
    clear hS hS'
    go_enter Try.func61, Try.ntmps61
    go_wp2
    refine wp_loop_rounds 1 ?_
    rw [rounds_succ]
    go_wp2
    go_ret
    exact ⟨rfl, (by repeat (first | (with_reducible exact Below.refl _ _) | (with_reducible assumption) | (with_reducible refine below_go ?_ (by with_reducible assumption)) | (with_reducible refine below_new ?_ _) | ((with_reducible refine below_put ?_ ?_ _); rotate_left; (dsimp only; omega)) | (with_reducible refine Below.drew ?_) | (with_reducible refine below_dn ?_ _)))⟩
  · obtain ⟨g, rfl, _, hH⟩ := hS h0
    obtain ⟨g', rfl, _, hH'⟩ := hS' h0
    have H1 := hide hH
    have H2 := hide hH'
    clear hH hH' hS hS'
    go_enter Try.func61, Try.ntmps61
    go_wp2
    go_loopw [5] (fun v wr => ∃ k : Nat, k ≤ n ∧ v = .int .i64 k ∧ Below w.heap.size w wr) (fun i _ => n - (intOf i).toNat)
    case atStart => exact ⟨0, by omega, rfl, (by repeat (first | (with_reducible exact Below.refl _ _) | (with_reducible assumption) | (with_reducible refine below_go ?_ (by with_reducible assumption)) | (with_reducible refine below_new ?_ _) | ((with_reducible refine below_put ?_ ?_ _); rotate_left; (dsimp only; omega)) | (with_reducible refine Below.drew ?_) | (with_reducible refine below_dn ?_ _)))⟩
    case round =>
      obtain ⟨k, hk, rfl, hB⟩ := hrel
      by_cases hlt : k < n
      · have i1 := H1.out.call hB
        have i2 := H2.out.call hB
        have a1 : (0 : Int) ≤ k := by omega
        have a2 : (k : Int) < n := by omega
        have q1 : wr.cell? ⟨g, k, none⟩ = some (.int .i64 (f k)) := i1.1 _ hlt
        have q2 : wr.cell? ⟨g', k, none⟩ = some (.int .i64 (f k)) := i2.1 _ hlt
        clear i1 i2
        go_wp2_with fail
        go_quiet (fail)
        go_wp2
        go_roundw
        case rel => exact ⟨k + 1, by omega, by go_num, (by repeat (first | (with_reducible exact Below.refl _ _) | (with_reducible assumption) | (with_reducible refine below_go ?_ (by with_reducible assumption)) | (with_reducible refine below_new ?_ _) | ((with_reducible refine below_put ?_ ?_ _); rotate_left; (dsimp only; omega)) | (with_reducible refine Below.drew ?_) | (with_reducible refine below_dn ?_ _)))⟩
        case measure => simp [intOf]; omega
      · obtain rfl : k = n := by omega
        go_wp2
        go_ret
        exact ⟨rfl, (by repeat (first | (with_reducible exact Below.refl _ _) | (with_reducible assumption) | (with_reducible refine below_go ?_ (by with_reducible assumption)) | (with_reducible refine below_new ?_ _) | ((with_reducible refine below_put ?_ ?_ _); rotate_left; (dsimp only; omega)) | (with_reducible refine Below.drew ?_) | (with_reducible refine below_dn ?_ _)))⟩


theorem sl_of {w : World} {g n : Nat} {c : Nat → Value} (h : Has w g n c) : Sl w 0 (some ⟨g, 0, none⟩) n c := fun _ => ⟨g, rfl, Nat.zero_le _, h⟩

end Go.Proofs.Ytjnmdhnckmmdnaa
