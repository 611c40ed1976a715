/-
  Contracts: the empty cells, as the reference lists them; how many tiles there are.
-/
import Derived.Test.YtjnmdhnckmmdnaaCellLoop
import Derived.Test.YtjnmdhnckmmdnaaOwn
import Derived.Test.YtjnmdhnckmmdnaaManyMath
import Derived.Test.YtjnmdhnckmmdnaaBoard2
import Derived.Test.YtjnmdhnckmmdnaaDir
namespace Go.Proofs.Ytjnmdhnckmmdnaa
open Go.RowKit

def emC (b : Nat → Int) (n : Nat) : List Value := (emL b n).flatMap fun p => [.int .i64 ((p / 4 : Nat) : Int), .int .i64 ((p % 4 : Nat) : Int)]
theorem emC_yes {b : Nat → Int} {r c : Nat} (hc : c < 4) (h : b (4 * r + c) = 0) : emC b (4 * r + (c + 1)) = emC b (4 * r + c) ++ [.int .i64 (r : Int), .int .i64 (c : Int)] := by
  unfold emC
  rw [← Nat.add_assoc, emL_succ, if_pos h, List.flatMap_append]
  simp only [List.flatMap_cons, List.flatMap_nil, List.append_nil]
  rw [show (4 * r + c) / 4 = r by omega, show (4 * r + c) % 4 = c by omega]
theorem emL_yes {b : Nat → Int} {r c : Nat} (h : b (4 * r + c) = 0) : (emL b (4 * r + (c + 1))).length = (emL b (4 * r + c)).length + 1 := by
  rw [← Nat.add_assoc, emL_succ, if_pos h]; simp
theorem emC_no {b : Nat → Int} {r c : Nat} (h : ¬ b (4 * r + c) = 0) : emC b (4 * r + (c + 1)) = emC b (4 * r + c) := by
  unfold emC
  rw [← Nat.add_assoc, emL_succ, if_neg h]
theorem emL_no {b : Nat → Int} {r c : Nat} (h : ¬ b (4 * r + c) = 0) : (emL b (4 * r + (c + 1))).length = (emL b (4 * r + c)).length := by
  rw [← Nat.add_assoc, emL_succ, if_neg h]

set_option maxHeartbeats 8000000 in
set_option maxRecDepth 100000 in
theorem l2Empty_own (b : Nat → Int) (w : World) : Calls Try.prog 108 #[.agg #[.int .i64 (b 0), .int .i64 (b 1), .int .i64 (b 2), .int .i64 (b 3), .int .i64 (b 4), .int .i64 (b 5), .int .i64 (b 6), .int .i64 (b 7), .int .i64 (b 8), .int .i64 (b 9), .int .i64 (b 10), .int .i64 (b 11), .int .i64 (b 12), .int .i64 (b 13), .int .i64 (b 14), .int .i64 (b 15)]] w fun e w' => ∃ v, e = .returned v ∧ w'.ownsRow w.heap.size 39 2 v (emL b 16).length (emC b 16) ∧ Below w.heap.size w w' := by
  obtain ⟨i0, hi0, hz0, hz1, hz2⟩ := info_parts info_A2
  go_enter Try.func108, Try.ntmps108
  go_upto_region 2 with (fail)
  go_wp2_with fail
  generalize hW : (w.alloc _).alloc _ = w1
  have O0 := own_made1 (size := 2) hW
  have hB : Below w.heap.size w w1 := by (rw [← hW]; exact (by repeat (first | (with_reducible exact Below.refl _ _) | (with_reducible assumption) | (with_reducible refine below_go ?_ (by with_reducible assumption)) | (with_reducible refine below_new ?_ _) | ((with_reducible refine below_put ?_ ?_ _); rotate_left; (dsimp only; omega)) | (with_reducible refine Below.drew ?_) | (with_reducible refine below_dn ?_ _))))
  have j0 : Has w1 w.heap.size 16 (fun o => .int .i64 (b o)) := by (rw [← hW]; repeat (first | (refine Has.new ?_ rfl; simp; done) | refine Has.alloc ?_ _))
  clear hW
  go_loopw [3, 4] (fun v i wr => ∃ r : Nat, r ≤ 4 ∧ i = .int .i64 r ∧ wr.ownsRow (w.heap.size + 1) 39 2 v (emL b (4 * r)).length (emC b (4 * r)) ∧ Below w.heap.size w wr ∧ Has wr w.heap.size 16 (fun o => .int .i64 (b o))) (fun _ i _ => 4 - (intOf i).toNat)
  case atStart => exact ⟨0, by omega, rfl, O0, hB, j0⟩
  case round =>
    clear hB j0 O0
    rename_i v3 _
    obtain ⟨r, hr, rfl, hown, hB, j0⟩ := hrel
    by_cases h4 : r = 4
    · subst h4
      go_wp2
      go_ret
      exact ⟨_, rfl, own_base hown (Nat.le_succ _), hB⟩
    · have hlt : r < 4 := by omega
      have hlti : (r : Int) < 4 := by omega
      have hdr : decide ((r : Int) < 4) = true := decide_eq_true hlti
      have a0 : (0 : Int) ≤ r := by omega
      go_wp2_with fail
      go_loopw [3, 5] (fun v i wr => ∃ c : Nat, c ≤ 4 ∧ i = .int .i64 c ∧ wr.ownsRow (w.heap.size + 1) 39 2 v (emL b (4 * r + c)).length (emC b (4 * r + c)) ∧ Below w.heap.size w wr ∧ Has wr w.heap.size 16 (fun o => .int .i64 (b o))) (fun _ i _ => 4 - (intOf i).toNat)
      case atStart => exact ⟨0, by omega, rfl, hown, hB, j0⟩
      case round =>
        clear hB j0 hown
        rename_i v3 _
        obtain ⟨c, hc, rfl, hown, hB, j0⟩ := hrel
        by_cases h4 : c = 4
        · subst h4
          go_wp2
          go_roundw
          case rel => exact ⟨r + 1, by omega, by go_num, hown, hB, j0⟩
          case measure => simp [intOf]; omega
        · have hltc : c < 4 := by omega
          have q1 : wr.cell? ⟨w.heap.size, r * 4 + c, none⟩ = some (.int .i64 (b (4 * r + c))) := (j0.1 _ (by omega)).trans (by rw [Nat.mul_comm])
          have hlen := emL_len b (4 * r + c)
          by_cases hz : b (4 * r + c) = 0
          · have HY := hide (emC_yes hltc hz)
            have HL := hide (emL_yes hz)
            go_wp2_with (at_builtin; refine wpList_append_own _ rfl (.tmp 22) (.tmp 26) 53 rfl (w.heap.size + 1) 39 i0 (.agg #[.int .i64 0, .int .i64 0]) 2 16 Try.underlying53 hi0 hz0 hz1 hz2 rfl (by decide) _ (emL b (4 * r + c)).length (emC b (4 * r + c)) rfl (hown.alloc _) ⟨wr.heap.size, 0, none⟩ 1 1 [.int .i64 (r : Int), .int .i64 (c : Int)] rfl rfl ?c1 ?c2 ?c3 ?c4 ?c5 ?_)
            case c1 => exact two_cells
            case c2 => intro u hu; simp at hu; rcases hu with rfl | rfl <;> rfl
            case c3 => unfold maxLen; omega
            case c4 => omega
            case c5 => have := hB.size; have := j0.2.2; simp; omega
            intro v' w1 hown' hgrow _
            have hB1 : Below w.heap.size w w1 := (below_new hB _).grown hgrow (by have := hB.size; simp; omega) (fun q hq => Nat.le_of_succ_le (hown.lt q hq).1)
            have j1 := (j0.alloc _).grown hgrow (own_at_ne hown (Nat.lt_succ_self _))
            rw [← HY.out, ← HL.out] at hown'
            clear hown hB hgrow j0 q1
            go_wp2
            go_roundw
            case rel => exact ⟨c + 1, by omega, by go_num, hown', hB1, j1⟩
            case measure => simp [intOf]; omega
          · have HY := hide (emC_no hz)
            have HL := hide (emL_no hz)
            go_wp2
            go_roundw
            case rel => exact ⟨c + 1, by omega, by go_num, by rw [HY.out, HL.out]; exact hown, hB, j0⟩
            case measure => simp [intOf]; omega

theorem mnB_range {b : Nat → Int} : 0 ≤ mnB b 16 ∧ mnB b 16 ≤ 16 := by
  have h := mnB_emL b 16; have h2 := emL_len b 16; omega

set_option maxHeartbeats 4000000 in
theorem l2Many_any (b : Nat → Int) (w : World) : Calls Try.prog 123 #[.agg #[.int .i64 (b 0), .int .i64 (b 1), .int .i64 (b 2), .int .i64 (b 3), .int .i64 (b 4), .int .i64 (b 5), .int .i64 (b 6), .int .i64 (b 7), .int .i64 (b 8), .int .i64 (b 9), .int .i64 (b 10), .int .i64 (b 11), .int .i64 (b 12), .int .i64 (b 13), .int .i64 (b 14), .int .i64 (b 15)]] w fun e w' => e = .returned (.int .i64 (mnB b 16)) ∧ Below w.heap.size w w' := by
  have hm := hide (mnB_emL b 16)
  have hl := emL_len b 16
  have s1 : IntKind.i64.wrap (16 - ((emL b 16).length : Int)) = mnB b 16 := by rw [IntWalk.i64_in _ (by omega), hm.out]; rfl
  go_enter Try.func123, Try.ntmps123
  go_upto_region 1 with (fail)
  generalize hW : w.alloc _ = w1
  have hB : Below w.heap.size w w1 := by (rw [← hW]; exact (by repeat (first | (with_reducible exact Below.refl _ _) | (with_reducible assumption) | (with_reducible refine below_go ?_ (by with_reducible assumption)) | (with_reducible refine below_new ?_ _) | ((with_reducible refine below_put ?_ ?_ _); rotate_left; (dsimp only; omega)) | (with_reducible refine Below.drew ?_) | (with_reducible refine below_dn ?_ _))))
  have hsz : Hid (w1.heap.size = w.heap.size + 1) := hide (by rw [← hW]; simp)
  have i0 : Has w1 (w.heap.size) 16 (fun o => .int .i64 (b o)) := by (rw [← hW]; repeat (first | (refine Has.new ?_ rfl; simp; done) | refine Has.alloc ?_ _))
  have ci0 := i0.1; have fi0 := i0.2.1; have zi0 := i0.2.2
  clear hW
  clear hsz
  go_wp2_with (first | (refine load_Board rfl _ rfl _ _ rfl (by repeat (first | (with_reducible assumption) | (with_reducible apply Has.set) | ((with_reducible apply Has.other); (case hne => (dsimp only; omega))) | (with_reducible apply Has.alloc) | (with_reducible apply Has.drew) | (with_reducible apply Has.drewN))) (by omega) ?_) | (go_at_call 108; (with_reducible refine (l2Empty_own _ _).mono ?_); rintro e w2 ⟨v, rfl, hown, hb2⟩; obtain ⟨A, cap, rfl, hcap, hS⟩ := own_sl hown; have hB' : Below w.heap.size w w2 := below_go (by repeat (first | (with_reducible exact Below.refl _ _) | (with_reducible assumption) | (with_reducible refine below_go ?_ (by with_reducible assumption)) | (with_reducible refine below_new ?_ _) | ((with_reducible refine below_put ?_ ?_ _); rotate_left; (dsimp only; omega)) | (with_reducible refine Below.drew ?_) | (with_reducible refine below_dn ?_ _))) hb2; have i0' : Has w2 (w.heap.size) 16 _ := Has.call (by repeat (first | (with_reducible assumption) | (with_reducible apply Has.set) | ((with_reducible apply Has.other); (case hne => (dsimp only; omega))) | (with_reducible apply Has.alloc) | (with_reducible apply Has.drew) | (with_reducible apply Has.drewN))) hb2; clear hB hb2; have hB := hB'; clear hB'; (try clear fi0); (try clear zi0); (try clear ci0); clear i0; have i0 := i0'; clear i0'; have ci0 := i0.1; have fi0 := i0.2.1; have zi0 := i0.2.2))
  go_ret
  exact ⟨rfl, (by repeat (first | (with_reducible exact Below.refl _ _) | (with_reducible assumption) | (with_reducible refine below_go ?_ (by with_reducible assumption)) | (with_reducible refine below_new ?_ _) | ((with_reducible refine below_put ?_ ?_ _); rotate_left; (dsimp only; omega)) | (with_reducible refine Below.drew ?_) | (with_reducible refine below_dn ?_ _)))⟩

end Go.Proofs.Ytjnmdhnckmmdnaa
