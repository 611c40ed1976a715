/-
  Contracts: the laws' comparison, marking and reading of slices of whole numbers.
-/
import Derived.Test.YtmjehagmgifchaaOwn
import Derived.Test.YtmjehagmgifchaaCellLoop
namespace Go.Proofs.Ytmjehagmgifchaa
open Go.RowKit

set_option maxHeartbeats 4000000 in
theorem eqIntS_same (w : World) (A A' : Option Addr) (B B' n c1 c2 : Nat) (f : Nat → Int) (hn : n ≤ 65536) (hS : Sl w B A n (fun o => .int .i64 (f o))) (hS' : Sl w B' A' n (fun o => .int .i64 (f o))) :
    Calls Try.prog 19 #[.slice A n c1, .slice A' n c2] w fun e w' => e = .returned (.bool true) ∧ Below w.heap.size w w' := by
  rcases Nat.eq_zero_or_pos n with h0 | h0
  · subst h0
    clear hS hS'
    go_enter Try.func19, Try.ntmps19
    go_wp2
    refine wp_loop_rounds 1 ?_
    rw [rounds_succ]
    go_wp2
    go_ret
    exact ⟨rfl, (by repeat (first | (with_reducible exact Below.refl _ _) | (with_reducible assumption) | (with_reducible refine below_go ?_ (by with_reducible assumption)) | (with_reducible refine below_new ?_ _) | ((with_reducible refine below_put ?_ ?_ _); rotate_left; (dsimp only; omega)) | (with_reducible refine Below.drew ?_) | (with_reducible refine below_dn ?_ _)))⟩
  · obtain ⟨g, rfl, _, hH⟩ := hS h0
    obtain ⟨g', rfl, _, hH'⟩ := hS' h0
    have H1 := hide hH
    have H2 := hide hH'
    clear hH hH' hS hS'
    go_enter Try.func19, Try.ntmps19
    go_wp2
    go_loopw [5] (fun v wr => ∃ k : Nat, k ≤ n ∧ v = .int .i64 k ∧ Below w.heap.size w wr) (fun i _ => n - (intOf i).toNat)
    case atStart => exact ⟨0, by omega, rfl, (by repeat (first | (with_reducible exact Below.refl _ _) | (with_reducible assumption) | (with_reducible refine below_go ?_ (by with_reducible assumption)) | (with_reducible refine below_new ?_ _) | ((with_reducible refine below_put ?_ ?_ _); rotate_left; (dsimp only; omega)) | (with_reducible refine Below.drew ?_) | (with_reducible refine below_dn ?_ _)))⟩
    case round =>
      obtain ⟨k, hk, rfl, hB⟩ := hrel
      by_cases hlt : k < n
      · have i1 := H1.out.call hB
        have i2 := H2.out.call hB
        have a1 : (0 : Int) ≤ k := by omega
        have a2 : (k : Int) < n := by omega
        have q1 : wr.cell? ⟨g, k, none⟩ = some (.int .i64 (f k)) := i1.1 _ hlt
        have q2 : wr.cell? ⟨g', k, none⟩ = some (.int .i64 (f k)) := i2.1 _ hlt
        clear i1 i2
        go_wp2_with fail
        go_quiet (fail)
        go_wp2
        go_roundw
        case rel => exact ⟨k + 1, by omega, by go_num, (by repeat (first | (with_reducible exact Below.refl _ _) | (with_reducible assumption) | (with_reducible refine below_go ?_ (by with_reducible assumption)) | (with_reducible refine below_new ?_ _) | ((with_reducible refine below_put ?_ ?_ _); rotate_left; (dsimp only; omega)) | (with_reducible refine Below.drew ?_) | (with_reducible refine below_dn ?_ _)))⟩
        case measure => simp [intOf]; omega
      · obtain rfl : k = n := by omega
        go_wp2
        go_ret
        exact ⟨rfl, (by repeat (first | (with_reducible exact Below.refl _ _) | (with_reducible assumption) | (with_reducible refine below_go ?_ (by with_reducible assumption)) | (with_reducible refine below_new ?_ _) | ((with_reducible refine below_put ?_ ?_ _); rotate_left; (dsimp only; omega)) | (with_reducible refine Below.drew ?_) | (with_reducible refine below_dn ?_ _)))⟩

set_option maxHeartbeats 4000000 in
theorem heldIntS_any (w : World) (A : Option Addr) (B n cap : Nat) (q : Int) (hq : 0 ≤ q) (hq2 : q ≤ 1000000) (hn : n ≤ 65536) (hS : Sl w B A n (fun o => .int .i64 (q + (o : Int)))) :
    Calls Try.prog 21 #[.slice A n cap, .int .i64 q] w fun e w' => e = .returned (.int .i64 (q + (n : Int))) ∧ w = w' := by
  rcases Nat.eq_zero_or_pos n with h0 | h0
  · subst h0
    clear hS
    go_enter Try.func21, Try.ntmps21
    go_wp2
    refine wp_loop_rounds 1 ?_
    rw [rounds_succ]
    go_wp2
    go_ret
    exact ⟨by simp, rfl⟩
  · obtain ⟨g, rfl, _, hH⟩ := hS h0
    have H1 := hide hH
    clear hH hS
    go_enter Try.func21, Try.ntmps21
    go_wp2
    go_loop [1, 5] (fun u v => ∃ k : Nat, k ≤ n ∧ v = .int .i64 k ∧ u = .int .i64 (q + (k : Int))) (fun _ i => n - (intOf i).toNat)
    case atStart => exact ⟨0, by omega, rfl, by simp⟩
    case round =>
      obtain ⟨k, hk, rfl, rfl⟩ := hrel
      by_cases hlt : k < n
      · have i1 := H1.out
        have a1 : (0 : Int) ≤ k := by omega
        have a2 : (k : Int) < n := by omega
        have q1 : w.cell? ⟨g, k, none⟩ = some (.int .i64 (q + (k : Int))) := i1.1 _ hlt
        clear i1
        go_wp2
        go_round
        case rel => exact ⟨k + 1, by omega, by go_num, by go_num⟩
        case measure => simp [intOf]; omega
      · obtain rfl : k = n := by omega
        go_wp2
        go_ret
        exact ⟨rfl, rfl⟩

set_option maxHeartbeats 4000000 in
theorem markIntS_any (w : World) (A : Option Addr) (B n cap : Nat) (q : Int) (c : Nat → Value) (hq : 0 ≤ q) (hq2 : q ≤ 1000000) (hn : n ≤ 65536) (hS : Sl w B A n c) :
    Calls Try.prog 20 #[.slice A n cap, .int .i64 q] w fun e w' => e = .returned (.int .i64 (q + (n : Int))) ∧ Below B w w' ∧ Sl w' B A n (fun o => .int .i64 (q + (o : Int))) := by
  rcases Nat.eq_zero_or_pos n with h0 | h0
  · subst h0
    clear hS
    go_enter Try.func20, Try.ntmps20
    go_wp2
    refine wp_loop_rounds 1 ?_
    rw [rounds_succ]
    go_wp2
    go_ret
    exact ⟨by simp, Below.refl _ _, sl_zero _ _ _ _⟩
  · obtain ⟨g, rfl, hg, hH⟩ := hS h0
    clear hS
    go_enter Try.func20, Try.ntmps20
    go_wp2
    go_loopw [1, 5] (fun u v wr => ∃ k : Nat, k ≤ n ∧ v = .int .i64 k ∧ u = .int .i64 (q + (k : Int)) ∧ Below B w wr ∧ Has wr g n (fun o => if o < k then .int .i64 (q + (o : Int)) else c o)) (fun _ i _ => n - (intOf i).toNat)
    case atStart => exact ⟨0, by omega, rfl, by simp, Below.refl _ _, hH.congr fun o _ => by rw [if_neg (by omega)]⟩
    case round =>
      clear hH
      obtain ⟨k, hk, rfl, rfl, hB, hH⟩ := hrel
      by_cases hlt : k < n
      · have a1 : (0 : Int) ≤ k := by omega
        have a2 : (k : Int) < n := by omega
        go_wp2_with ((refine store_int rfl _ _ rfl _ _ _ rfl rfl hH hlt ?_); intro w3 ho3 hn3)
        go_roundw
        case rel => exact ⟨k + 1, by omega, by go_num, by go_num, below_only' hB ho3 hg, hn3.congr fun o _ => by
          by_cases e : o = k
          · subst e; rw [if_pos rfl, if_pos (by omega)]
          · rw [if_neg e]
            by_cases e2 : o < k
            · rw [if_pos e2, if_pos (by omega)]
            · rw [if_neg e2, if_neg (by omega)]⟩
        case measure => simp [intOf]; omega
      · obtain rfl : k = n := by omega
        go_wp2
        go_ret
        exact ⟨rfl, hB, fun _ => ⟨g, rfl, hg, hH.congr fun o ho => by rw [if_pos ho]⟩⟩

end Go.Proofs.Ytmjehagmgifchaa
