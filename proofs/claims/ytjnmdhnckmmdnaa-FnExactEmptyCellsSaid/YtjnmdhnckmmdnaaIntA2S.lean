/-
  Contracts: the laws' comparison, marking and reading of slices of cells.
-/
import Derived.Test.YtjnmdhnckmmdnaaIntS
import Derived.Test.YtjnmdhnckmmdnaaBoard4
import Derived.Deep.RegionHeld3
namespace Go.Proofs.Ytjnmdhnckmmdnaa
open Go.RowKit

theorem keepA {w' : World} {g g' N M p q : Nat} {f h : Nat → Int} (h0 : Has w' g N (fun o => .int .i64 (f o))) (h1 : Has w' g' M (fun o => .int .i64 (h o))) (hp : p + 1 < N) (hq : q + 1 < M) :
    (w'.cell? ⟨g, p, none⟩ = some (.int .i64 (f p)) ∧ w'.cell? ⟨g, p + 1, none⟩ = some (.int .i64 (f (p + 1)))) ∧ w'.cell? ⟨g', q, none⟩ = some (.int .i64 (h q)) ∧ w'.cell? ⟨g', q + 1, none⟩ = some (.int .i64 (h (q + 1))) :=
  ⟨⟨h0.1 _ (by omega), h0.1 _ hp⟩, h1.1 _ (by omega), h1.1 _ hq⟩

set_option maxHeartbeats 8000000 in
theorem eqIntA2S_same (w : World) (A A' : Option Addr) (B B' n c1 c2 : Nat) (f : Nat → Int) (hn : n ≤ 65536) (hS : Sl w B A (n * 2) (fun o => .int .i64 (f o))) (hS' : Sl w B' A' (n * 2) (fun o => .int .i64 (f o))) :
    Calls Try.prog 50 #[.slice A n c1, .slice A' n c2] w fun e w' => e = .returned (.bool true) ∧ Below w.heap.size w w' := by
  rcases Nat.eq_zero_or_pos n with h0 | h0
  · subst h0
    clear hS hS'
    go_enter Try.func50, Try.ntmps50
    go_wp2
    refine wp_loop_rounds 1 ?_
    rw [rounds_succ]
    go_wp2
    go_ret
    exact ⟨rfl, (by repeat (first | (with_reducible exact Below.refl _ _) | (with_reducible assumption) | (with_reducible refine below_go ?_ (by with_reducible assumption)) | (with_reducible refine below_new ?_ _) | ((with_reducible refine below_put ?_ ?_ _); rotate_left; (dsimp only; omega)) | (with_reducible refine Below.drew ?_) | (with_reducible refine below_dn ?_ _)))⟩
  · obtain ⟨N, hN⟩ : ∃ N, N = n * 2 := ⟨_, rfl⟩
    rw [← hN] at hS hS'
    obtain ⟨g, rfl, _, hH⟩ := hS (by omega)
    obtain ⟨g', rfl, _, hH'⟩ := hS' (by omega)
    have HN := hide hN
    clear hS hS' hN
    have hB : Below w.heap.size w w := Below.refl _ _
    go_enter Try.func50, Try.ntmps50
    go_wp2
    go_loopw [5] (fun v wr => ∃ k : Nat, k ≤ n ∧ v = .int .i64 k ∧ Below w.heap.size w wr ∧ Has wr g N (fun o => .int .i64 (f o)) ∧ Has wr g' N (fun o => .int .i64 (f o))) (fun i _ => n - (intOf i).toNat)
    case atStart => exact ⟨0, by omega, rfl, hB, hH, hH'⟩
    case round =>
      clear hB hH hH'
      obtain ⟨k, hk, rfl, hB, i1, i2⟩ := hrel
      by_cases hlt : k < n
      · have a1 : (0 : Int) ≤ k := by omega
        have a2 : (k : Int) < n := by omega
        have hb1 : k * 2 + 1 < N := by rw [HN.out]; omega
        obtain ⟨⟨q1, q2⟩, q3, q4⟩ := keepA i1 i2 hb1 hb1
        go_wp2_with fail
        go_region_held3 (fun w' => (w'.cell? ⟨g, k * 2, none⟩ = some (.int .i64 (f (k * 2))) ∧ w'.cell? ⟨g, k * 2 + 1, none⟩ = some (.int .i64 (f (k * 2 + 1)))) ∧ w'.cell? ⟨g', k * 2, none⟩ = some (.int .i64 (f (k * 2))) ∧ w'.cell? ⟨g', k * 2 + 1, none⟩ = some (.int .i64 (f (k * 2 + 1)))) (first
          | exact keepA i1 i2 hb1 hb1
          | exact keepA (Has.drew i1) (Has.drew i2) hb1 hb1)
          (first | (go_at_call 37; (with_reducible refine (eqIntA2_same _ _ _).mono ?_); rintro e w2 ⟨rfl, hb2⟩; have hB' : Below w.heap.size w w2 := below_go (by repeat (first | (with_reducible exact Below.refl _ _) | (with_reducible assumption) | (with_reducible refine below_go ?_ (by with_reducible assumption)) | (with_reducible refine below_new ?_ _) | ((with_reducible refine below_put ?_ ?_ _); rotate_left; (dsimp only; omega)) | (with_reducible refine Below.drew ?_) | (with_reducible refine below_dn ?_ _))) hb2; have i1' : Has w2 (g) N _ := Has.call (by repeat (first | (with_reducible assumption) | (with_reducible apply Has.set) | ((with_reducible apply Has.other); (case hne => (dsimp only; omega))) | (with_reducible apply Has.alloc) | (with_reducible apply Has.drew) | (with_reducible apply Has.drewN))) hb2; have i2' : Has w2 (g') N _ := Has.call (by repeat (first | (with_reducible assumption) | (with_reducible apply Has.set) | ((with_reducible apply Has.other); (case hne => (dsimp only; omega))) | (with_reducible apply Has.alloc) | (with_reducible apply Has.drew) | (with_reducible apply Has.drewN))) hb2; clear hB hb2; have hB := hB'; clear hB'; (try clear fi1); (try clear zi1); (try clear ci1); clear i1; have i1 := i1'; clear i1'; have ci1 := i1.1; have fi1 := i1.2.1; have zi1 := i1.2.2; (try clear fi2); (try clear zi2); (try clear ci2); clear i2; have i2 := i2'; clear i2'; have ci2 := i2.1; have fi2 := i2.2.1; have zi2 := i2.2.2) | fail)
        clear q1 q2 q3 q4
        go_wp2
        go_roundw
        case rel => exact ⟨k + 1, by omega, by go_num, (by repeat (first | (with_reducible exact Below.refl _ _) | (with_reducible assumption) | (with_reducible refine below_go ?_ (by with_reducible assumption)) | (with_reducible refine below_new ?_ _) | ((with_reducible refine below_put ?_ ?_ _); rotate_left; (dsimp only; omega)) | (with_reducible refine Below.drew ?_) | (with_reducible refine below_dn ?_ _))), (by repeat (first | (with_reducible assumption) | (with_reducible apply Has.set) | ((with_reducible apply Has.other); (case hne => (dsimp only; omega))) | (with_reducible apply Has.alloc) | (with_reducible apply Has.drew) | (with_reducible apply Has.drewN))), (by repeat (first | (with_reducible assumption) | (with_reducible apply Has.set) | ((with_reducible apply Has.other); (case hne => (dsimp only; omega))) | (with_reducible apply Has.alloc) | (with_reducible apply Has.drew) | (with_reducible apply Has.drewN)))⟩
        case measure => simp [intOf]; omega
      · obtain rfl : k = n := by omega
        go_wp2
        go_ret
        exact ⟨rfl, (by repeat (first | (with_reducible exact Below.refl _ _) | (with_reducible assumption) | (with_reducible refine below_go ?_ (by with_reducible assumption)) | (with_reducible refine below_new ?_ _) | ((with_reducible refine below_put ?_ ?_ _); rotate_left; (dsimp only; omega)) | (with_reducible refine Below.drew ?_) | (with_reducible refine below_dn ?_ _)))⟩

set_option maxHeartbeats 8000000 in
theorem heldIntA2S_any (w : World) (A : Option Addr) (B n cap : Nat) (q : Int) (hq : 0 ≤ q) (hq2 : q ≤ 1000000) (hn : n ≤ 65536) (hS : Sl w B A (n * 2) (fun o => .int .i64 (q + (o : Int)))) :
    Calls Try.prog 52 #[.slice A n cap, .int .i64 q] w fun e w' => e = .returned (.int .i64 (q + 2 * (n : Int))) ∧ w = w' := by
  rcases Nat.eq_zero_or_pos n with h0 | h0
  · subst h0
    clear hS
    go_enter Try.func52, Try.ntmps52
    go_wp2
    refine wp_loop_rounds 1 ?_
    rw [rounds_succ]
    go_wp2
    go_ret
    exact ⟨by simp, rfl⟩
  · obtain ⟨g, rfl, _, hH⟩ := hS (by omega)
    have H1 := hide hH
    clear hH hS
    go_enter Try.func52, Try.ntmps52
    go_wp2
    go_loop [1, 5] (fun u v => ∃ k : Nat, k ≤ n ∧ v = .int .i64 k ∧ u = .int .i64 (q + 2 * (k : Int))) (fun _ i => n - (intOf i).toNat)
    case atStart => exact ⟨0, by omega, rfl, by simp⟩
    case round =>
      obtain ⟨k, hk, rfl, rfl⟩ := hrel
      by_cases hlt : k < n
      · have a1 : (0 : Int) ≤ k := by omega
        have a2 : (k : Int) < n := by omega
        have q1 : w.cell? ⟨g, k * 2, none⟩ = some (.int .i64 (q + 2 * (k : Int))) := (H1.out.1 _ (by omega)).trans (by simp only [Option.some.injEq, Value.int.injEq, true_and]; omega)
        have q2 : w.cell? ⟨g, k * 2 + 1, none⟩ = some (.int .i64 (q + 2 * (k : Int) + 1)) := (H1.out.1 _ (by omega)).trans (by simp only [Option.some.injEq, Value.int.injEq, true_and]; omega)
        go_wp2_with (first | (rw [rounds_succ]) | (with_reducible refine wp_loop_rounds 3 ?_))
        go_round
        case rel => exact ⟨k + 1, by omega, by go_num, by go_num⟩
        case measure => simp [intOf]; omega
      · obtain rfl : k = n := by omega
        go_wp2
        go_ret
        exact ⟨rfl, rfl⟩

set_option maxHeartbeats 8000000 in
theorem markIntA2S_any (w : World) (A : Option Addr) (B n cap : Nat) (q : Int) (c : Nat → Value) (hq : 0 ≤ q) (hq2 : q ≤ 1000000) (hn : n ≤ 65536) (hS : Sl w B A (n * 2) c) :
    Calls Try.prog 51 #[.slice A n cap, .int .i64 q] w fun e w' => e = .returned (.int .i64 (q + 2 * (n : Int))) ∧ Below B w w' ∧ Sl w' B A (n * 2) (fun o => .int .i64 (q + (o : Int))) := by
  rcases Nat.eq_zero_or_pos n with h0 | h0
  · subst h0
    clear hS
    go_enter Try.func51, Try.ntmps51
    go_wp2
    refine wp_loop_rounds 1 ?_
    rw [rounds_succ]
    go_wp2
    go_ret
    exact ⟨by simp, Below.refl _ _, by rw [Nat.zero_mul]; exact sl_zero _ _ _ _⟩
  · obtain ⟨g, rfl, hg, hH⟩ := hS (by omega)
    clear hS
    go_enter Try.func51, Try.ntmps51
    go_wp2
    go_loopw [1, 5] (fun u v wr => ∃ k : Nat, k ≤ n ∧ v = .int .i64 k ∧ u = .int .i64 (q + 2 * (k : Int)) ∧ Below B w wr ∧ Has wr g (n * 2) (fun o => if o < k * 2 then .int .i64 (q + (o : Int)) else c o)) (fun _ i _ => n - (intOf i).toNat)
    case atStart => exact ⟨0, by omega, rfl, by simp, Below.refl _ _, hH.congr fun o _ => by rw [if_neg (by omega)]⟩
    case round =>
      clear hH
      obtain ⟨k, hk, rfl, rfl, hB, hH⟩ := hrel
      by_cases hlt : k < n
      · have a1 : (0 : Int) ≤ k := by omega
        have a2 : (k : Int) < n := by omega
        go_wp2_with (first | (rw [rounds_succ]) | (with_reducible refine wp_loop_rounds 3 ?_) | ((refine store_int rfl _ _ rfl _ _ _ rfl rfl hH (by omega) ?_); intro w3 ho3 hn3; have hB' := below_only' hB ho3 hg; clear hB hH; have hB := hB'; have hH := hn3; clear hB' hn3 ho3))
        go_roundw
        case rel => exact ⟨k + 1, by omega, by go_num, by go_num, hB, hH.congr fun o _ => by
          by_cases e : o = k * 2 + 1
          · subst e; rw [if_pos rfl, if_pos (by omega)]; simp; omega
          · rw [if_neg e]
            by_cases e1 : o = k * 2
            · subst e1; rw [if_pos rfl, if_pos (by omega)]; simp; omega
            · rw [if_neg e1]
              by_cases e2 : o < k * 2
              · rw [if_pos e2, if_pos (by omega)]
              · rw [if_neg e2, if_neg (by omega)]⟩
        case measure => simp [intOf]; omega
      · obtain rfl : k = n := by omega
        go_wp2
        go_ret
        exact ⟨rfl, hB, fun _ => ⟨g, rfl, hg, hH.congr fun o ho => by rw [if_pos ho]⟩⟩

end Go.Proofs.Ytjnmdhnckmmdnaa
