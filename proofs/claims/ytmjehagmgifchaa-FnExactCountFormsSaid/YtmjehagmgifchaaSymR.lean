/-
  Contract: SymmetriesOf, the reference's.
-/
import Derived.Test.YtmjehagmgifchaaSymWords
import Derived.Test.YtmjehagmgifchaaForm4
import Derived.Deep.RegionHeld3
namespace Go.Proofs.Ytmjehagmgifchaa
open Go.RowKit

set_option maxHeartbeats 8000000 in
set_option maxRecDepth 100000 in
theorem l3Same_own (b : Nat → Int) (w : World) : Calls Try.prog 97 #[.agg #[.int .i64 (b 0), .int .i64 (b 1), .int .i64 (b 2), .int .i64 (b 3), .int .i64 (b 4), .int .i64 (b 5), .int .i64 (b 6), .int .i64 (b 7), .int .i64 (b 8), .int .i64 (b 9), .int .i64 (b 10), .int .i64 (b 11), .int .i64 (b 12), .int .i64 (b 13), .int .i64 (b 14), .int .i64 (b 15)]] w fun e w' => ∃ v, e = .returned v ∧ w'.ownsRow w.heap.size 3 1 v (symL b 8).length (ints (symL b 8)) ∧ Below w.heap.size w w' := by
  obtain ⟨t0, hi0, hz0, hz1, hz2⟩ := info_parts info_int3
  go_enter Try.func97, Try.ntmps97
  go_upto_region 2 with (fail)
  go_wp2_with fail
  generalize hW : (w.alloc _).alloc _ = w1
  have O0 := own_made1 (size := 1) hW
  have hB : Below w.heap.size w w1 := by (rw [← hW]; exact (by repeat (first | (with_reducible exact Below.refl _ _) | (with_reducible assumption) | (with_reducible refine below_go ?_ (by with_reducible assumption)) | (with_reducible refine below_new ?_ _) | ((with_reducible refine below_put ?_ ?_ _); rotate_left; (dsimp only; omega)) | (with_reducible refine Below.drew ?_) | (with_reducible refine below_dn ?_ _))))
  have i0 : Has w1 w.heap.size 16 (fun o => .int .i64 (b o)) := by (rw [← hW]; repeat (first | (refine Has.new ?_ rfl; simp; done) | refine Has.alloc ?_ _))
  clear hW
  go_loopw [3, 4] (fun v i wr => ∃ k : Nat, k ≤ 8 ∧ i = .int .i64 k ∧ wr.ownsRow (w.heap.size + 1) 3 1 v (symL b k).length (ints (symL b k)) ∧ Below w.heap.size w wr ∧ Has wr w.heap.size 16 (fun o => .int .i64 (b o))) (fun _ i _ => 8 - (intOf i).toNat)
  case atStart => exact ⟨0, by omega, rfl, O0, hB, i0⟩
  case round =>
    clear hB i0 O0
    rename_i v3 _
    obtain ⟨k, hk, rfl, hown, hB, i0⟩ := hrel
    by_cases h4 : k = 8
    · subst h4
      go_wp2
      go_ret
      exact ⟨_, rfl, own_base hown (Nat.le_succ _), hB⟩
    · have hlt : k < 8 := by omega
      have hlen := symL_len b k
      have ci0 := i0.1; have zi0 := i0.2.2
      cases he : smB b k
      · have hq : ∀ w, (binOp .eql 25 (.agg #[.int .i64 ((formB b k) 0), .int .i64 ((formB b k) 1), .int .i64 ((formB b k) 2), .int .i64 ((formB b k) 3), .int .i64 ((formB b k) 4), .int .i64 ((formB b k) 5), .int .i64 ((formB b k) 6), .int .i64 ((formB b k) 7), .int .i64 ((formB b k) 8), .int .i64 ((formB b k) 9), .int .i64 ((formB b k) 10), .int .i64 ((formB b k) 11), .int .i64 ((formB b k) 12), .int .i64 ((formB b k) 13), .int .i64 ((formB b k) 14), .int .i64 ((formB b k) 15)]) (.agg #[.int .i64 (b 0), .int .i64 (b 1), .int .i64 (b 2), .int .i64 (b 3), .int .i64 (b 4), .int .i64 (b 5), .int .i64 (b 6), .int .i64 (b 7), .int .i64 (b 8), .int .i64 (b 9), .int .i64 (b 10), .int .i64 (b 11), .int .i64 (b 12), .int .i64 (b 13), .int .i64 (b 14), .int .i64 (b 15)])).run Try.prog w = .ok (.bool false) w := fun w => by rw [run_eql_Board]; exact congrArg (fun x => Result.ok (Value.bool x) w) he
        have HY := hide (symL_no he)
        clear he
        go_wp2_with fail
        go_region_held3 (fun w' => ∀ o, o < 16 → w'.cell? ⟨w.heap.size, o, none⟩ = some (.int .i64 (b o))) (first | exact i0.1 | exact (Has.drew i0).1)
          (first | (go_at_call 98; (with_reducible refine (l3Made_any _ _ hlt _).mono ?_); rintro e w2 ⟨rfl, hb2⟩; have hown' := own_call (own_draw hown) hb2; clear hown; have hown := hown'; clear hown'; have hB' : Below w.heap.size w w2 := below_go (by repeat (first | (with_reducible exact Below.refl _ _) | (with_reducible assumption) | (with_reducible refine below_go ?_ (by with_reducible assumption)) | (with_reducible refine below_new ?_ _) | ((with_reducible refine below_put ?_ ?_ _); rotate_left; (dsimp only; omega)) | (with_reducible refine Below.drew ?_) | (with_reducible refine below_dn ?_ _))) hb2; have i0' : Has w2 (w.heap.size) 16 _ := Has.call (by repeat (first | (with_reducible assumption) | (with_reducible apply Has.set) | ((with_reducible apply Has.other); (case hne => (dsimp only; omega))) | (with_reducible apply Has.alloc) | (with_reducible apply Has.drew) | (with_reducible apply Has.drewN))) hb2; clear hB hb2; have hB := hB'; clear hB'; (try clear fi0); (try clear zi0); (try clear ci0); clear i0; have i0 := i0'; clear i0'; have ci0 := i0.1; have fi0 := i0.2.1; have zi0 := i0.2.2) | fail)
        clear ci0 fi0
        go_wp2
        go_roundw
        case rel => exact ⟨k + 1, by omega, by go_num, by rw [HY.out]; exact hown, hB, i0⟩
        case measure => simp [intOf]; omega
      · have hq : ∀ w, (binOp .eql 25 (.agg #[.int .i64 ((formB b k) 0), .int .i64 ((formB b k) 1), .int .i64 ((formB b k) 2), .int .i64 ((formB b k) 3), .int .i64 ((formB b k) 4), .int .i64 ((formB b k) 5), .int .i64 ((formB b k) 6), .int .i64 ((formB b k) 7), .int .i64 ((formB b k) 8), .int .i64 ((formB b k) 9), .int .i64 ((formB b k) 10), .int .i64 ((formB b k) 11), .int .i64 ((formB b k) 12), .int .i64 ((formB b k) 13), .int .i64 ((formB b k) 14), .int .i64 ((formB b k) 15)]) (.agg #[.int .i64 (b 0), .int .i64 (b 1), .int .i64 (b 2), .int .i64 (b 3), .int .i64 (b 4), .int .i64 (b 5), .int .i64 (b 6), .int .i64 (b 7), .int .i64 (b 8), .int .i64 (b 9), .int .i64 (b 10), .int .i64 (b 11), .int .i64 (b 12), .int .i64 (b 13), .int .i64 (b 14), .int .i64 (b 15)])).run Try.prog w = .ok (.bool true) w := fun w => by rw [run_eql_Board]; exact congrArg (fun x => Result.ok (Value.bool x) w) he
        have HY := hide (symL_yes he)
        clear he
        go_wp2_with fail
        go_region_held3 (fun w' => ∀ o, o < 16 → w'.cell? ⟨w.heap.size, o, none⟩ = some (.int .i64 (b o))) (first | exact i0.1 | exact (Has.drew i0).1)
          (first | (go_at_call 98; (with_reducible refine (l3Made_any _ _ hlt _).mono ?_); rintro e w2 ⟨rfl, hb2⟩; have hown' := own_call (own_draw hown) hb2; clear hown; have hown := hown'; clear hown'; have hB' : Below w.heap.size w w2 := below_go (by repeat (first | (with_reducible exact Below.refl _ _) | (with_reducible assumption) | (with_reducible refine below_go ?_ (by with_reducible assumption)) | (with_reducible refine below_new ?_ _) | ((with_reducible refine below_put ?_ ?_ _); rotate_left; (dsimp only; omega)) | (with_reducible refine Below.drew ?_) | (with_reducible refine below_dn ?_ _))) hb2; have i0' : Has w2 (w.heap.size) 16 _ := Has.call (by repeat (first | (with_reducible assumption) | (with_reducible apply Has.set) | ((with_reducible apply Has.other); (case hne => (dsimp only; omega))) | (with_reducible apply Has.alloc) | (with_reducible apply Has.drew) | (with_reducible apply Has.drewN))) hb2; clear hB hb2; have hB := hB'; clear hB'; (try clear fi0); (try clear zi0); (try clear ci0); clear i0; have i0 := i0'; clear i0'; have ci0 := i0.1; have fi0 := i0.2.1; have zi0 := i0.2.2) | fail)
        clear ci0 fi0
        go_wp2_with (at_builtin; refine wpList_append_own _ rfl (.tmp 15) (.tmp 17) 35 rfl (w.heap.size + 1) 3 t0 (.int .i64 0) 1 8 Try.underlying35 hi0 hz0 hz1 hz2 rfl (by decide) _ (symL b k).length (ints (symL b k)) rfl (hown.alloc _) ⟨w2.heap.size, 0, none⟩ 1 1 [.int .i64 (k : Int)] rfl rfl ?c1 ?c2 ?c3 ?c4 ?c5 ?_)
        case c1 => exact one_cell
        case c2 => first | rfl | (intro u hu; simp at hu; rcases hu with rfl; rfl)
        case c3 => unfold maxLen; omega
        case c4 => omega
        case c5 => have := hB.size; have := i0.2.2; simp; omega
        intro v' w3 hown' hgrow _
        have hB1 : Below w.heap.size w w3 := (below_new hB _).grown hgrow (by have := hB.size; simp; omega) (fun q hq => Nat.le_of_succ_le (hown.lt q hq).1)
        have j1 := (i0.alloc _).grown hgrow (own_at_ne hown (Nat.lt_succ_self _))
        rw [← ints_snoc, ← HY.out] at hown'
        have hl : (symL b k).length + 1 = (symL b (k + 1)).length := by rw [HY.out]; simp
        rw [hl] at hown'
        clear hown hB hgrow i0 hl
        go_wp2
        go_roundw
        case rel => exact ⟨k + 1, by omega, by go_num, hown', hB1, j1⟩
        case measure => simp [intOf]; omega

end Go.Proofs.Ytmjehagmgifchaa
