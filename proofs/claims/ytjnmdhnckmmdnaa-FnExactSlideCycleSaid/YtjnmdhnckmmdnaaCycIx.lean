/-
  Contract: slices.Index at boards.
-/
import Derived.Test.YtjnmdhnckmmdnaaCycWords
import Derived.Test.YtjnmdhnckmmdnaaTkWords
namespace Go.Proofs.Ytjnmdhnckmmdnaa
open Go.RowKit

set_option maxHeartbeats 8000000 in
set_option maxRecDepth 100000 in
theorem indexB_any (f : Nat → Nat → Int) (c : Nat → Int) (A : Option Addr) (k cap : Nat) (hk : k ≤ cycN) (base : Nat) (w : World) (hS : Sl w base A (k * 16) (seenC f)) :
    Calls Try.prog 131 #[.slice A k cap, .agg #[.int .i64 (c 0), .int .i64 (c 1), .int .i64 (c 2), .int .i64 (c 3), .int .i64 (c 4), .int .i64 (c 5), .int .i64 (c 6), .int .i64 (c 7), .int .i64 (c 8), .int .i64 (c 9), .int .i64 (c 10), .int .i64 (c 11), .int .i64 (c 12), .int .i64 (c 13), .int .i64 (c 14), .int .i64 (c 15)]] w fun e w' => ∃ i, e = .returned (.int .i64 i) ∧ Ix f k c i ∧ Below w.heap.size w w' := by
  have hk2 : k ≤ 802963914769 := hk
  clear hk
  rcases Nat.eq_zero_or_pos k with h0 | h0
  · subst h0
    clear hS
    go_enter Try.func131, Try.ntmps131
    go_upto_region 2 with (fail)
    refine wp_loop_rounds 1 ?_
    rw [rounds_succ]
    go_wp2
    go_ret
    exact ⟨_, rfl, .inl ⟨rfl, fun j hj => absurd hj (Nat.not_lt_zero j)⟩, (by repeat (first | (with_reducible exact Below.refl _ _) | (with_reducible assumption) | (with_reducible refine below_go ?_ (by with_reducible assumption)) | (with_reducible refine below_new ?_ _) | ((with_reducible refine below_put ?_ ?_ _); rotate_left; (dsimp only; omega)) | (with_reducible refine Below.drew ?_) | (with_reducible refine below_dn ?_ _)))⟩
  · obtain ⟨g, rfl, _, hH⟩ := hS (by omega)
    have HS := hide hH
    have hgl := hH.2.2
    clear hH hS
    go_enter Try.func131, Try.ntmps131
    go_upto_region 1 with (fail)
    generalize hW : w.alloc _ = w1
    have hB : Below w.heap.size w w1 := by (rw [← hW]; exact (by repeat (first | (with_reducible exact Below.refl _ _) | (with_reducible assumption) | (with_reducible refine below_go ?_ (by with_reducible assumption)) | (with_reducible refine below_new ?_ _) | ((with_reducible refine below_put ?_ ?_ _); rotate_left; (dsimp only; omega)) | (with_reducible refine Below.drew ?_) | (with_reducible refine below_dn ?_ _))))
    have hsz : Hid (w1.heap.size = w.heap.size + 1) := hide (by rw [← hW]; simp)
    have i0 : Has w1 (w.heap.size) 16 (fun o => .int .i64 (c o)) := by (rw [← hW]; repeat (first | (refine Has.new ?_ rfl; simp; done) | refine Has.alloc ?_ _))
    have ci0 := i0.1; have fi0 := i0.2.1; have zi0 := i0.2.2
    clear hW
    clear ci0 fi0 zi0 hsz
    go_wp2_with fail
    go_loopw [5, 8] (fun _ v wr => ∃ m : Nat, m ≤ k ∧ v = .int .i64 m ∧ Hid (∀ j, j < m → eqB c (f j) = false) ∧ Below w.heap.size w wr ∧ Has wr w.heap.size 16 (fun o => .int .i64 (c o))) (fun _ i _ => k - (intOf i).toNat)
    case atStart => exact ⟨0, by omega, rfl, hide (fun j hj => absurd hj (Nat.not_lt_zero _)), hB, i0⟩
    case round =>
      clear hB i0
      obtain ⟨m, hm, rfl, hall, hB, i0⟩ := hrel
      by_cases hlt : m < k
      · have a0 : (0 : Int) ≤ m := by omega
        have a1 : (m : Int) < k := by omega
        have iL := HS.out.call hB
        have ziL := iL.2.2
        have zi0 := i0.2.2
        have hE := run_eql_Board c (f m)
        cases he : eqB c (f m)
        all_goals
          rw [he] at hE
          have HE := hide he
          clear he
          go_wp2_with fail
          refine wp_region_noPanic ?_
          refine wp_region_held_drew (S := (fun w' => RB w.heap.size c w' ∧ RBo g m (f m) w')) (by kernel_rfl) ?hS01 (fun hHeld => ?_)
          case hS01 => exact ⟨rb_of (Has.drew i0), rbo_of (Has.drew iL) (by omega)⟩
          have hB' : Below w.heap.size w (World.drew _) := Below.drew hB
          have iL' := Has.drew iL
          have i0' := Has.drew i0
          (try clear ciL); (try clear fiL)
          (try clear ci0); (try clear fi0)
          generalize hWW : World.drew _ = wx at *; clear hWW
          clear hB; have hB := hB'; clear hB'; clear iL ziL; have iL := iL'; clear iL'; have ziL := iL.2.2; clear i0 zi0; have i0 := i0'; clear i0'; have zi0 := i0.2.2
          refine take_d (i := 0) (some 11) (oi := _) (v := _) rfl rfl (by kernel_rfl) (by kernel_rfl) (by kernel_rfl) (fun _ _ _ h => h) (yieldsIf_load_mid (by rfl) _ _ rfl _ _ rfl _ _ (fun w h => h.1.r) Try.underlying34 rfl (by kernel_rfl)) (by assumption) ?_
          all_goals (try simp only [Act.put, List.setIfInBounds_toArray, List.set_cons_zero, List.set_cons_succ])
          refine take_d (i := 1) (some 12) (v := ?_) rfl rfl (by kernel_rfl) (by kernel_rfl) (by kernel_rfl) (fun _ _ _ h => h) (Or.inl ⟨by rfl, ?_⟩) (by assumption) ?_
          rotate_left; (intro w hSw; clear hSw; go_simp; try with_reducible rfl)
          all_goals (try simp only [Act.put, List.setIfInBounds_toArray, List.set_cons_zero, List.set_cons_succ])
          refine take_d (i := 2) (some 13) (v := ?_) rfl rfl (by kernel_rfl) (by kernel_rfl) (by kernel_rfl) (fun _ _ _ h => h) (Or.inl ⟨by rfl, ?_⟩) (by assumption) ?_
          rotate_left; (intro w hSw; clear hSw; go_simp; try with_reducible rfl)
          all_goals (try simp only [Act.put, List.setIfInBounds_toArray, List.set_cons_zero, List.set_cons_succ])
          refine take_d (i := 3) (some 14) (v := ?_) rfl rfl (by kernel_rfl) (by kernel_rfl) (by kernel_rfl) (fun _ _ _ h => h) (Or.inl ⟨by rfl, ?_⟩) (by assumption) ?_
          rotate_left; (intro w hSw; clear hSw; go_simp; try with_reducible rfl)
          all_goals (try simp only [Act.put, List.setIfInBounds_toArray, List.set_cons_zero, List.set_cons_succ])
          refine take_d (i := 4) (some 15) (oi := _) (v := _) rfl rfl (by kernel_rfl) (by kernel_rfl) (by kernel_rfl) (fun _ _ _ h => h) (yieldsIf_load_mid (by rfl) _ _ rfl _ _ rfl _ _ (fun w h => h.2.r) Try.underlying34 rfl (by kernel_rfl)) (by assumption) ?_
          all_goals (try simp only [Act.put, List.setIfInBounds_toArray, List.set_cons_zero, List.set_cons_succ])
          refine take_d (i := 5) (some 16) (v := ?_) rfl rfl (by kernel_rfl) (by kernel_rfl) (by kernel_rfl) (fun _ _ _ h => h) (Or.inl ⟨by rfl, ?_⟩) (by assumption) ?_
          rotate_left; (intro w hSw; clear hSw; go_simp; try with_reducible rfl)
          all_goals (try simp only [Act.put, List.setIfInBounds_toArray, List.set_cons_zero, List.set_cons_succ])
          refine wpAnyH_done (by kernel_rfl) ?_ _
          (try refine NoPanic.normal ?_)
          first
            | (go_wp2
               go_roundw
               case rel => exact ⟨m + 1, by omega, by go_num, hide (fun j hj => by
                 rcases (by omega : j < m ∨ j = m) with h | rfl
                 · exact hall.out j h
                 · exact HE.out), hB, i0⟩
               case measure => (simp [intOf]; omega))
            | (go_wp2
               go_ret
               exact ⟨_, rfl, .inr ⟨m, hlt, rfl, HE.out, hall.out⟩, hB⟩)
      · obtain rfl : m = k := by omega
        go_wp2
        go_ret
        exact ⟨_, rfl, .inl ⟨rfl, hall.out⟩, hB⟩

end Go.Proofs.Ytjnmdhnckmmdnaa
