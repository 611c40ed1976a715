/-
  Contracts: slices.Grow, slices.Concat; the numbers of a board in order; how two boards compare (the program's).
-/
import Derived.Test.YtmjehagmgifchaaLess1
import Derived.Test.YtmjehagmgifchaaBoard2
import Derived.Lib.AppendZeros
import Derived.Deep.RegionHeld3
namespace Go.Proofs.Ytmjehagmgifchaa
open Go.RowKit

theorem zeros_size (n : Nat) : (Builtin.zeroCells #[Value.int .i64 0] n).size = n := by
  have h := congrArg List.length (zeroCells_int n)
  simpa using h

theorem grow_own (w : World) (e : TypeId) : (w.drew.alloc (.cells (Builtin.zeroCells #[Value.int .i64 0] 16 ++ Builtin.zeroCells #[Value.int .i64 0] (grownCap w 16 0 e - 16)) e)).ownsRow w.heap.size e 1 (.slice (some ⟨w.heap.size, 0, none⟩) 0 (grownCap w 16 0 e)) 0 [] := by
  have h1 : 16 ≤ grownCap w 16 0 e := grownCap_ge w _ _ _
  exact World.ownsRow_made w.drew _ _ (Nat.le_refl _) (grownCap_le_maxLen w 16 0 e (by unfold maxLen; omega)) (by simp [zeros_size]; omega)

set_option maxHeartbeats 4000000 in
theorem grow16_any (w : World) : Calls Try.prog 196 #[.slice none 0 0, .int .i64 16] w fun e w' => ∃ v, e = .returned v ∧ w'.ownsRow w.heap.size 3 1 v 0 [] ∧ Below w.heap.size w w' := by
  obtain ⟨i0, hi0, hz0, hz1, hz2⟩ := info_parts info_int3
  have hr := fun ty => Lib.run_append_nil_zeros w 35 3 ty 3 i0 (.int .i64 0) .i64 .i64 Try.underlying35 Try.underlying3 hi0 hz0 16 (by omega) (by omega) (by omega) (by rw [hz2]; omega)
  have HO := hide (grow_own w 3)
  have HG := grownCap_ge w 16 0 3
  have HR := hide hr
  clear hr
  go_enter Try.func196, Try.ntmps196
  go_wp2_with (at_builtin; refine Lib.wpList_append_run _ rfl _ _ _ _ rfl _ _ rfl rfl _ _ (HR.out _) ?_)
  go_ret
  exact ⟨_, rfl, HO.out, (by repeat (first | (with_reducible exact Below.refl _ _) | (with_reducible assumption) | (with_reducible refine below_go ?_ (by with_reducible assumption)) | (with_reducible refine below_new ?_ _) | ((with_reducible refine below_put ?_ ?_ _); rotate_left; (dsimp only; omega)) | (with_reducible refine Below.drew ?_) | (with_reducible refine below_dn ?_ _)))⟩

def nums (b : Nat → Int) (n : Nat) : List Value := (List.range n).map fun p => .int .i64 (b p)
theorem nums_four (b : Nat → Int) (k : Nat) : nums b (4 * k) ++ (List.range 4).map (fun j => Value.int .i64 (b (4 * k + j))) = nums b (4 * (k + 1)) := by
  unfold nums
  rw [Nat.mul_succ, List.range_add, List.map_append, List.map_map]
  rfl

theorem nums_four' (b : Nat → Int) (k : Nat) : nums b (4 * k) ++ [Value.int .i64 (b (4 * k)), .int .i64 (b (4 * k + 1)), .int .i64 (b (4 * k + 2)), .int .i64 (b (4 * k + 3))] = nums b (4 * (k + 1)) := nums_four b k

set_option maxHeartbeats 8000000 in
set_option maxRecDepth 100000 in
theorem concat_any (w : World) (S B c : Nat) (b : Nat → Int) (hS : Has w S 4 (fun i => .slice (some ⟨B, 4 * i, none⟩) 4 4)) (hH : Has w B 16 (fun o => .int .i64 (b o))) :
    Calls Try.prog 179 #[.slice (some ⟨S, 0, none⟩) 4 c] w fun e w' => ∃ v, e = .returned v ∧ w'.ownsRow w.heap.size 3 1 v 16 (nums b 16) ∧ Below w.heap.size w w' := by
  obtain ⟨i0, hi0, hz0, hz1, hz2⟩ := info_parts info_int3
  have H1 := hide hS
  have H2 := hide hH
  clear hS hH
  go_enter Try.func179, Try.ntmps179
  go_wp2_with fail
  go_loop [3, 11] (fun u v => ∃ k : Nat, k ≤ 4 ∧ v = .int .i64 k ∧ u = .int .i64 (4 * (k : Int))) (fun _ i => 4 - (intOf i).toNat)
  case atStart => exact ⟨0, by omega, rfl, rfl⟩
  case round =>
    obtain ⟨k, hk, rfl, rfl⟩ := hrel
    by_cases h4 : k = 4
    · subst h4
      go_wp2_with ((go_at_call 196); (refine (grow16_any _).mono ?_); rintro e w1 ⟨v, rfl, hown, hB⟩)
      have i1 := H1.out.call hB
      have i2 := H2.out.call hB
      have O0 : w1.ownsRow w.heap.size 3 1 v (4 * 0) (nums b (4 * 0)) := hown
      clear hown
      go_loopw [6, 27] (fun v i wr => ∃ k : Nat, k ≤ 4 ∧ i = .int .i64 k ∧ wr.ownsRow w.heap.size 3 1 v (4 * k) (nums b (4 * k)) ∧ Below w.heap.size w wr ∧ Has wr S 4 (fun i => .slice (some ⟨B, 4 * i, none⟩) 4 4) ∧ Has wr B 16 (fun o => .int .i64 (b o))) (fun _ i _ => 4 - (intOf i).toNat)
      case atStart => exact ⟨0, by omega, rfl, O0, hB, i1, i2⟩
      case round =>
        clear hB i1 i2 O0
        rename_i v6 _
        obtain ⟨k, hk, rfl, hown, hB, i1, i2⟩ := hrel
        by_cases h4 : k = 4
        · subst h4
          go_wp2
          go_ret
          exact ⟨_, rfl, hown, hB⟩
        · have hlt : k < 4 := by omega
          have q1 : wr.cell? ⟨S, k, none⟩ = some (.slice (some ⟨B, 4 * k, none⟩) 4 4) := i1.1 k hlt
          have HN := hide (nums_four' b k)
          go_wp2_with (at_builtin; refine wpList_append_own _ rfl (.tmp 31) (.tmp 32) 35 rfl w.heap.size 3 i0 (.int .i64 0) 1 8 Try.underlying35 hi0 hz0 hz1 hz2 rfl (by decide) _ (4 * k) (nums b (4 * k)) rfl hown ⟨B, 4 * k, none⟩ 4 4 ((List.range 4).map fun j => .int .i64 (b (4 * k + j))) rfl rfl ?c1 ?c2 ?c3 ?c4 ?c5 ?_)
          case c1 => exact i2.news (by omega)
          case c2 => intro u hu; obtain ⟨x, _, rfl⟩ := List.mem_map.1 hu; rfl
          case c3 => unfold maxLen; omega
          case c4 => omega
          case c5 => exact hB.size
          intro v' w3 hown' hgrow _
          have hB1 : Below w.heap.size w w3 := hB.grown hgrow hB.size (fun q hq => (hown.lt q hq).1)
          have j1 := i1.grown hgrow (own_at_ne hown H1.out.2.2)
          have j2 := i2.grown hgrow (own_at_ne hown H2.out.2.2)
          rw [HN.out] at hown'
          clear hown hB hgrow i1 i2 q1
          go_wp2
          go_roundw
          case rel => exact ⟨k + 1, by omega, by go_num, hown', hB1, j1, j2⟩
          case measure => simp [intOf]; omega
    · have hlt : k < 4 := by omega
      have q1 : w.cell? ⟨S, k, none⟩ = some (.slice (some ⟨B, 4 * k, none⟩) 4 4) := H1.out.1 k hlt
      go_wp2
      go_round
      case rel => exact ⟨k + 1, by omega, by go_num, by go_num⟩
      case measure => simp [intOf]; omega

theorem four4 (B : Nat) (o : Nat) (ho : o < 4) : (#[Value.slice (some ⟨B, 0, none⟩) 4 4, .slice (some ⟨B, 4, none⟩) 4 4, .slice (some ⟨B, 8, none⟩) 4 4, .slice (some ⟨B, 12, none⟩) 4 4] : Array Value).getD o undef = .slice (some ⟨B, 4 * o, none⟩) 4 4 := by
  rcases (by omega : o = 0 ∨ o = 1 ∨ o = 2 ∨ o = 3) with rfl | rfl | rfl | rfl <;> rfl

set_option maxHeartbeats 4000000 in
set_option maxRecDepth 100000 in
theorem flat_any (b : Nat → Int) (w : World) : Calls Try.prog 168 #[.agg #[.int .i64 (b 0), .int .i64 (b 1), .int .i64 (b 2), .int .i64 (b 3), .int .i64 (b 4), .int .i64 (b 5), .int .i64 (b 6), .int .i64 (b 7), .int .i64 (b 8), .int .i64 (b 9), .int .i64 (b 10), .int .i64 (b 11), .int .i64 (b 12), .int .i64 (b 13), .int .i64 (b 14), .int .i64 (b 15)]] w fun e w' => ∃ g cap, e = .returned (.slice (some ⟨g, 0, none⟩) 16 cap) ∧ w.heap.size ≤ g ∧ Has w' g 16 (fun o => .int .i64 (b o)) ∧ Below w.heap.size w w' := by
  go_enter Try.func168, Try.ntmps168
  go_upto_region 1 with (fail)
  generalize hW : w.alloc _ = w1
  have hB : Below w.heap.size w w1 := by (rw [← hW]; exact (by repeat (first | (with_reducible exact Below.refl _ _) | (with_reducible assumption) | (with_reducible refine below_go ?_ (by with_reducible assumption)) | (with_reducible refine below_new ?_ _) | ((with_reducible refine below_put ?_ ?_ _); rotate_left; (dsimp only; omega)) | (with_reducible refine Below.drew ?_) | (with_reducible refine below_dn ?_ _))))
  have hsz : Hid (w1.heap.size = w.heap.size + 1) := hide (by rw [← hW]; simp)
  have i0 : Has w1 (w.heap.size) 16 (fun o => .int .i64 (b o)) := by (rw [← hW]; repeat (first | (refine Has.new ?_ rfl; simp; done) | refine Has.alloc ?_ _))
  have ci0 := i0.1; have fi0 := i0.2.1; have zi0 := i0.2.2
  clear hW
  clear ci0 fi0 hsz
  go_wp2_with (first | ((refine wp_region_still_tail 12 (by kernel_rfl) (by kernel_rfl) ?_); (simp only [List.take_succ_cons, List.take_zero, List.drop_succ_cons, List.drop_zero]); (change wpStill _ _ (World.drew _) _ _ _); (repeat still_step); (refine wpStill_nil ?_); (change wpList _ _ _ _ _ (World.drew _))))
  refine (concat_any _ _ w.heap.size _ b ?hs ?hb).mono ?_
  case hs => exact Has.congr (Has.drew (Has.new' (n := 4) rfl)) (four4 _)
  case hb => exact (by repeat (first | (with_reducible assumption) | (with_reducible apply Has.set) | ((with_reducible apply Has.other); (case hne => (dsimp only; omega))) | (with_reducible apply Has.alloc) | (with_reducible apply Has.drew) | (with_reducible apply Has.drewN)))
  rintro e w2 ⟨v, rfl, hown, hb2⟩
  have hB' : Below w.heap.size w w2 := below_go ((by repeat (first | (with_reducible exact Below.refl _ _) | (with_reducible assumption) | (with_reducible refine below_go ?_ (by with_reducible assumption)) | (with_reducible refine below_new ?_ _) | ((with_reducible refine below_put ?_ ?_ _); rotate_left; (dsimp only; omega)) | (with_reducible refine Below.drew ?_) | (with_reducible refine below_dn ?_ _)))) hb2
  have hown := own_base (base' := w.heap.size) hown (by simp; omega)
  obtain ⟨A, cap, rfl, _, hS⟩ := own_sl hown
  obtain ⟨g, rfl, hg, hH⟩ := hS (by omega)
  clear hS hown
  go_wp2
  go_ret
  exact ⟨_, _, rfl, hg, hH.congr fun o ho => by simp [nums, ho], hB'⟩

end Go.Proofs.Ytmjehagmgifchaa
