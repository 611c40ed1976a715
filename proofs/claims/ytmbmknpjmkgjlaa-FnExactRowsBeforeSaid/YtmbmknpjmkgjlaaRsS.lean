/-
  Contracts: the laws' comparison, marking and reading of slices of rows.
-/
import Derived.Test.YtmbmknpjmkgjlaaRsW
import Derived.Test.YtmbmknpjmkgjlaaRow3
namespace Go.Proofs.Ytmbmknpjmkgjlaa
open Go.RowKit

set_option maxHeartbeats 4000000 in
theorem eqIntA4S_same (w : World) (A A' : Option Addr) (B B' c1 c2 : Nat) (l : List (Nat → Int)) (hn : l.length ≤ 65536) (hS : Sl w B A (l.length * 4) (rsC l)) (hS' : Sl w B' A' (l.length * 4) (rsC l)) :
    Calls Try.prog 15 #[.slice A l.length c1, .slice A' l.length c2] w fun e w' => e = .returned (.bool true) ∧ Below w.heap.size w w' := by
  rcases Nat.eq_zero_or_pos l.length with h0 | h0
  · rw [h0]
    clear hS hS'
    go_enter Try.func15, Try.ntmps15
    go_wp2
    refine wp_loop_rounds 1 ?_
    rw [rounds_succ]
    go_wp2
    go_ret
    exact ⟨rfl, (by repeat (first | (with_reducible exact Below.refl _ _) | (with_reducible assumption) | (with_reducible refine below_go ?_ (by with_reducible assumption)) | (with_reducible refine below_new ?_ _) | ((with_reducible refine below_put ?_ ?_ _); rotate_left; (dsimp only; omega)) | (with_reducible refine Below.drew ?_) | (with_reducible refine below_dn ?_ _)))⟩
  · obtain ⟨g, rfl, _, hH⟩ := hS (by omega)
    obtain ⟨g', rfl, _, hH'⟩ := hS' (by omega)
    have H1 := hide hH
    have H2 := hide hH'
    clear hH hH' hS hS'
    go_enter Try.func15, Try.ntmps15
    go_wp2
    go_loopw [5] (fun v wr => ∃ k : Nat, k ≤ l.length ∧ v = .int .i64 k ∧ Below w.heap.size w wr) (fun i _ => l.length - (intOf i).toNat)
    case atStart => exact ⟨0, by omega, rfl, (by repeat (first | (with_reducible exact Below.refl _ _) | (with_reducible assumption) | (with_reducible refine below_go ?_ (by with_reducible assumption)) | (with_reducible refine below_new ?_ _) | ((with_reducible refine below_put ?_ ?_ _); rotate_left; (dsimp only; omega)) | (with_reducible refine Below.drew ?_) | (with_reducible refine below_dn ?_ _)))⟩
    case round =>
      obtain ⟨k, hk, rfl, hB⟩ := hrel
      by_cases hlt : k < l.length
      · have i1 := H1.out.call hB
        have i2 := H2.out.call hB
        have zi1 := i1.2.2
        have zi2 := i2.2.2
        have a1 : (0 : Int) ≤ k := by omega
        have a2 : (k : Int) < l.length := by omega
        generalize hN : l.length = N at *
        go_wp2_with fail
        refine wp_region_noPanic ?_
        refine wp_region_held_drew (S := (fun w' => RRo g k (atR l k) w' ∧ RRo g' k (atR l k) w')) (by kernel_rfl) ?hS01 (fun hHeld => ?_)
        case hS01 => exact ⟨rro_of (Has.drew i1) (by omega), rro_of i2 (by omega)⟩
        have hB' : Below w.heap.size w (World.drew _) := Below.drew hB
        have i1' := Has.drew i1
        have i2' := Has.drew i2
        (try clear ci1); (try clear fi1)
        (try clear ci2); (try clear fi2)
        generalize hWW : World.drew _ = wx at *; clear hWW
        clear hB; have hB := hB'; clear hB'; clear i1 zi1; have i1 := i1'; clear i1'; have zi1 := i1.2.2; clear i2 zi2; have i2 := i2'; clear i2'; have zi2 := i2.2.2
        refine take_d (i := 0) (some 17) (v := ?_) rfl rfl (by kernel_rfl) (by kernel_rfl) (by kernel_rfl) (fun _ _ _ h => h) (Or.inl ⟨by rfl, ?_⟩) (by assumption) ?_
        rotate_left; (intro w hSw; clear hSw; go_simp; try with_reducible rfl)
        all_goals (try simp only [Act.put, List.setIfInBounds_toArray, List.set_cons_zero, List.set_cons_succ])
        refine take_d (i := 1) (some 18) (v := ?_) rfl rfl (by kernel_rfl) (by kernel_rfl) (by kernel_rfl) (fun _ _ _ h => h) (Or.inl ⟨by rfl, ?_⟩) (by assumption) ?_
        rotate_left; (intro w hSw; clear hSw; go_simp; try with_reducible rfl)
        all_goals (try simp only [Act.put, List.setIfInBounds_toArray, List.set_cons_zero, List.set_cons_succ])
        refine take_d (i := 2) (some 19) (v := ?_) rfl rfl (by kernel_rfl) (by kernel_rfl) (by kernel_rfl) (fun _ _ _ h => h) (Or.inl ⟨by rfl, ?_⟩) (by assumption) ?_
        rotate_left; (intro w hSw; clear hSw; go_simp; try with_reducible rfl)
        all_goals (try simp only [Act.put, List.setIfInBounds_toArray, List.set_cons_zero, List.set_cons_succ])
        refine take_d (i := 3) (some 20) (oi := _) (v := _) rfl rfl (by kernel_rfl) (by kernel_rfl) (by kernel_rfl) (fun _ _ _ h => h) (yieldsIf_load_mid (by rfl) _ _ rfl _ _ rfl _ _ (fun w h => h.1.r) Try.underlying22 rfl (by kernel_rfl)) (by assumption) ?_
        all_goals (try simp only [Act.put, List.setIfInBounds_toArray, List.set_cons_zero, List.set_cons_succ])
        refine take_d (i := 4) (some 21) (v := ?_) rfl rfl (by kernel_rfl) (by kernel_rfl) (by kernel_rfl) (fun _ _ _ h => h) (Or.inl ⟨by rfl, ?_⟩) (by assumption) ?_
        rotate_left; (intro w hSw; clear hSw; go_simp; try with_reducible rfl)
        all_goals (try simp only [Act.put, List.setIfInBounds_toArray, List.set_cons_zero, List.set_cons_succ])
        refine take_d (i := 5) (some 22) (v := ?_) rfl rfl (by kernel_rfl) (by kernel_rfl) (by kernel_rfl) (fun _ _ _ h => h) (Or.inl ⟨by rfl, ?_⟩) (by assumption) ?_
        rotate_left; (intro w hSw; clear hSw; go_simp; try with_reducible rfl)
        all_goals (try simp only [Act.put, List.setIfInBounds_toArray, List.set_cons_zero, List.set_cons_succ])
        refine take_d (i := 6) (some 23) (v := ?_) rfl rfl (by kernel_rfl) (by kernel_rfl) (by kernel_rfl) (fun _ _ _ h => h) (Or.inl ⟨by rfl, ?_⟩) (by assumption) ?_
        rotate_left; (intro w hSw; clear hSw; go_simp; try with_reducible rfl)
        all_goals (try simp only [Act.put, List.setIfInBounds_toArray, List.set_cons_zero, List.set_cons_succ])
        refine take_d (i := 7) (some 24) (oi := _) (v := _) rfl rfl (by kernel_rfl) (by kernel_rfl) (by kernel_rfl) (fun _ _ _ h => h) (yieldsIf_load_mid (by rfl) _ _ rfl _ _ rfl _ _ (fun w h => h.2.r) Try.underlying22 rfl (by kernel_rfl)) (by assumption) ?_
        all_goals (try simp only [Act.put, List.setIfInBounds_toArray, List.set_cons_zero, List.set_cons_succ])
        refine wpAnyH_ready (rs := [8]) (by kernel_rfl) (by simp) ?_
        refine AllReadyH.cons (o := _) rfl (fun K hK => ?_) ?_
        ·
          go_simp
          refine ((eqIntA4_same _ _ _ _ _)).mono ?_
          rintro e w2 ⟨rfl, hb2⟩
          (try go_wp2_with fail)
          have hB' : Below w.heap.size w w2 := below_go hB hb2
          have i1' := Has.call i1 hb2
          have i2' := Has.call i2 hb2
          clear hb2; clear hB; have hB := hB'; clear hB'; clear i1 zi1; have i1 := i1'; clear i1'; have zi1 := i1.2.2; clear i2 zi2; have i2 := i2'; clear i2'; have zi2 := i2.2.2
          generalize hWW : w2 = wx at *; clear hWW
          refine hK.out _ _ ?hS2 (fun hHeld => ?_)
          case hS2 => exact ⟨rro_of i1 (by omega), rro_of i2 (by omega)⟩
          clear hK K
          (try simp only [Act.put, List.setIfInBounds_toArray, List.set_cons_zero, List.set_cons_succ])
          refine take_d (i := 9) (some 26) (v := ?_) rfl rfl (by kernel_rfl) (by kernel_rfl) (by kernel_rfl) (fun _ _ _ h => h) (Or.inl ⟨by rfl, ?_⟩) (by assumption) ?_
          rotate_left; (intro w hSw; clear hSw; go_simp; try with_reducible rfl)
          all_goals (try simp only [Act.put, List.setIfInBounds_toArray, List.set_cons_zero, List.set_cons_succ])
          refine wpAnyH_done (by kernel_rfl) ?_ _
          (try refine NoPanic.normal ?_)
          go_wp2
          go_roundw
          case rel => exact ⟨k + 1, by omega, by go_num, (by repeat (first | (with_reducible exact Below.refl _ _) | (with_reducible assumption) | (with_reducible refine below_go ?_ (by with_reducible assumption)) | (with_reducible refine below_new ?_ _) | ((with_reducible refine below_put ?_ ?_ _); rotate_left; (dsimp only; omega)) | (with_reducible refine Below.drew ?_) | (with_reducible refine below_dn ?_ _)))⟩
          case measure => (simp [intOf]; omega)
        exact AllReadyH.nil
      · obtain rfl : k = l.length := by omega
        go_wp2
        go_ret
        exact ⟨rfl, (by repeat (first | (with_reducible exact Below.refl _ _) | (with_reducible assumption) | (with_reducible refine below_go ?_ (by with_reducible assumption)) | (with_reducible refine below_new ?_ _) | ((with_reducible refine below_put ?_ ?_ _); rotate_left; (dsimp only; omega)) | (with_reducible refine Below.drew ?_) | (with_reducible refine below_dn ?_ _)))⟩

set_option maxHeartbeats 8000000 in
theorem heldIntA4S_any (w : World) (A : Option Addr) (B n cap : Nat) (q : Int) (hq : 0 ≤ q) (hq2 : q ≤ 1000000) (hn : n ≤ 65536) (hS : Sl w B A (n * 4) (fun o => .int .i64 (q + (o : Int)))) :
    Calls Try.prog 17 #[.slice A n cap, .int .i64 q] w fun e w' => e = .returned (.int .i64 (q + 4 * (n : Int))) ∧ w = w' := by
  rcases Nat.eq_zero_or_pos n with h0 | h0
  · subst h0
    clear hS
    go_enter Try.func17, Try.ntmps17
    go_wp2
    refine wp_loop_rounds 1 ?_
    rw [rounds_succ]
    go_wp2
    go_ret
    exact ⟨by simp, rfl⟩
  · obtain ⟨g, rfl, _, hH⟩ := hS (by omega)
    have H1 := hide hH
    clear hH hS
    go_enter Try.func17, Try.ntmps17
    go_wp2
    go_loop [1, 5] (fun u v => ∃ k : Nat, k ≤ n ∧ v = .int .i64 k ∧ u = .int .i64 (q + 4 * (k : Int))) (fun _ i => n - (intOf i).toNat)
    case atStart => exact ⟨0, by omega, rfl, by simp⟩
    case round =>
      obtain ⟨k, hk, rfl, rfl⟩ := hrel
      by_cases hlt : k < n
      · have a1 : (0 : Int) ≤ k := by omega
        have a2 : (k : Int) < n := by omega
        have q1 : w.cell? ⟨g, k * 4, none⟩ = some (.int .i64 (q + 4 * (k : Int))) := (H1.out.1 _ (by omega)).trans (by simp only [Option.some.injEq, Value.int.injEq, true_and]; omega)
        have q2 : w.cell? ⟨g, k * 4 + 1, none⟩ = some (.int .i64 (q + 4 * (k : Int) + 1)) := (H1.out.1 _ (by omega)).trans (by simp only [Option.some.injEq, Value.int.injEq, true_and]; omega)
        have q3 : w.cell? ⟨g, k * 4 + 2, none⟩ = some (.int .i64 (q + 4 * (k : Int) + 1 + 1)) := (H1.out.1 _ (by omega)).trans (by simp only [Option.some.injEq, Value.int.injEq, true_and]; omega)
        have q4 : w.cell? ⟨g, k * 4 + 3, none⟩ = some (.int .i64 (q + 4 * (k : Int) + 1 + 1 + 1)) := (H1.out.1 _ (by omega)).trans (by simp only [Option.some.injEq, Value.int.injEq, true_and]; omega)
        go_wp2_with (first | (rw [rounds_succ]) | (with_reducible refine wp_loop_rounds 5 ?_))
        go_round
        case rel => exact ⟨k + 1, by omega, by go_num, by go_num⟩
        case measure => simp [intOf]; omega
      · obtain rfl : k = n := by omega
        go_wp2
        go_ret
        exact ⟨rfl, rfl⟩

set_option maxHeartbeats 8000000 in
theorem markIntA4S_any (w : World) (A : Option Addr) (B n cap : Nat) (q : Int) (c : Nat → Value) (hq : 0 ≤ q) (hq2 : q ≤ 1000000) (hn : n ≤ 65536) (hS : Sl w B A (n * 4) c) :
    Calls Try.prog 16 #[.slice A n cap, .int .i64 q] w fun e w' => e = .returned (.int .i64 (q + 4 * (n : Int))) ∧ Below B w w' ∧ Sl w' B A (n * 4) (fun o => .int .i64 (q + (o : Int))) := by
  rcases Nat.eq_zero_or_pos n with h0 | h0
  · subst h0
    clear hS
    go_enter Try.func16, Try.ntmps16
    go_wp2
    refine wp_loop_rounds 1 ?_
    rw [rounds_succ]
    go_wp2
    go_ret
    exact ⟨by simp, Below.refl _ _, by rw [Nat.zero_mul]; exact sl_zero _ _ _ _⟩
  · obtain ⟨g, rfl, hg, hH⟩ := hS (by omega)
    clear hS
    go_enter Try.func16, Try.ntmps16
    go_wp2
    go_loopw [1, 5] (fun u v wr => ∃ k : Nat, k ≤ n ∧ v = .int .i64 k ∧ u = .int .i64 (q + 4 * (k : Int)) ∧ Below B w wr ∧ Has wr g (n * 4) (fun o => if o < k * 4 then .int .i64 (q + (o : Int)) else c o)) (fun _ i _ => n - (intOf i).toNat)
    case atStart => exact ⟨0, by omega, rfl, by simp, Below.refl _ _, hH.congr fun o _ => by rw [if_neg (by omega)]⟩
    case round =>
      clear hH
      obtain ⟨k, hk, rfl, rfl, hB, hH⟩ := hrel
      by_cases hlt : k < n
      · have a1 : (0 : Int) ≤ k := by omega
        have a2 : (k : Int) < n := by omega
        go_wp2_with (first | (rw [rounds_succ]) | (with_reducible refine wp_loop_rounds 5 ?_) | ((refine store_int rfl _ _ rfl _ _ _ rfl rfl hH (by omega) ?_); intro w3 ho3 hn3; have hB' := below_only' hB ho3 hg; clear hB hH; have hB := hB'; have hH := hn3; clear hB' hn3 ho3))
        go_roundw
        case rel => exact ⟨k + 1, by omega, by go_num, by go_num, hB, hH.congr fun o _ => by
          by_cases e3 : o = k * 4 + 3
          · subst e3; rw [if_pos rfl, if_pos (by omega)]; simp; omega
          · rw [if_neg e3]
            by_cases e2 : o = k * 4 + 2
            · subst e2; rw [if_pos rfl, if_pos (by omega)]; simp; omega
            · rw [if_neg e2]
              by_cases e1 : o = k * 4 + 1
              · subst e1; rw [if_pos rfl, if_pos (by omega)]; simp; omega
              · rw [if_neg e1]
                by_cases e0 : o = k * 4
                · subst e0; rw [if_pos rfl, if_pos (by omega)]; simp; omega
                · rw [if_neg e0]
                  by_cases e : o < k * 4
                  · rw [if_pos e, if_pos (by omega)]
                  · rw [if_neg e, if_neg (by omega)]⟩
        case measure => simp [intOf]; omega
      · obtain rfl : k = n := by omega
        go_wp2
        go_ret
        exact ⟨rfl, hB, fun _ => ⟨g, rfl, hg, hH.congr fun o ho => by rw [if_pos ho]⟩⟩

end Go.Proofs.Ytmbmknpjmkgjlaa
