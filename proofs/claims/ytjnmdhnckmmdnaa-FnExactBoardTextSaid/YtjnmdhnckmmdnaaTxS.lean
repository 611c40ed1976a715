/-
  Contract: the text of a board, the reference's.
-/
import Derived.Test.YtjnmdhnckmmdnaaTxWords
import Derived.Test.YtjnmdhnckmmdnaaBoardMath
namespace Go.Proofs.Ytjnmdhnckmmdnaa
open Go.RowKit

set_option maxHeartbeats 4000000 in
set_option maxRecDepth 100000 in
theorem l2Text_any (b : Nat → Int) (hb : In17 b 16) (w : World) : Calls Try.prog 115 #[.agg #[.int .i64 (b 0), .int .i64 (b 1), .int .i64 (b 2), .int .i64 (b 3), .int .i64 (b 4), .int .i64 (b 5), .int .i64 (b 6), .int .i64 (b 7), .int .i64 (b 8), .int .i64 (b 9), .int .i64 (b 10), .int .i64 (b 11), .int .i64 (b 12), .int .i64 (b 13), .int .i64 (b 14), .int .i64 (b 15)]] w fun e w' => e = .returned (.string (mkS (txL b))) ∧ Below w.heap.size w w' := by
  have HB := hide hb
  clear hb
  go_enter Try.func115, Try.ntmps115
  go_upto_region 1 with (fail)
  generalize hW : w.alloc _ = w1
  have hB : Below w.heap.size w w1 := by (rw [← hW]; exact (by repeat (first | (with_reducible exact Below.refl _ _) | (with_reducible assumption) | (with_reducible refine below_go ?_ (by with_reducible assumption)) | (with_reducible refine below_new ?_ _) | ((with_reducible refine below_put ?_ ?_ _); rotate_left; (dsimp only; omega)) | (with_reducible refine Below.drew ?_) | (with_reducible refine below_dn ?_ _))))
  have hsz : Hid (w1.heap.size = w.heap.size + 1) := hide (by rw [← hW]; simp)
  have i0 : Has w1 (w.heap.size) 16 (fun o => .int .i64 (b o)) := by (rw [← hW]; repeat (first | (refine Has.new ?_ rfl; simp; done) | refine Has.alloc ?_ _))
  have ci0 := i0.1; have fi0 := i0.2.1; have zi0 := i0.2.2
  clear hW
  clear ci0 fi0 zi0 hsz
  go_wp2_with fail
  go_loop [3, 4] (fun s i => ∃ r : Nat, r ≤ 4 ∧ i = .int .i64 r ∧ s = .string (mkS (preT b r))) (fun _ i => 4 - (intOf i).toNat)
  case atStart => exact ⟨0, by omega, rfl, rfl⟩
  case round =>
    obtain ⟨r, hr, rfl, rfl⟩ := hrel
    by_cases h4 : r = 4
    · subst h4
      go_wp2
      go_ret
      exact ⟨rfl, hB⟩
    · have hlt : r < 4 := by omega
      have a0 : (0 : Int) ≤ r := by omega
      have a1 : (r : Int) < 4 := by omega
      have q0 : ∃ S : ByteArray, Hid (S = mkS (hdT b r)) ∧ ((r : Int) ≤ 0 ∧ Hid (mkS (preT b r) = S) ∨ 0 < (r : Int) ∧ Hid (mkS (preT b r) ++ ⟨#[47]⟩ = S)) := by
        by_cases hz : r = 0
        · subst hz; exact ⟨_, rfl, Or.inl ⟨by omega, rfl⟩⟩
        · refine ⟨_, rfl, Or.inr ⟨by omega, ?_⟩⟩
          show mkS (preT b r) ++ ⟨[47].toArray⟩ = _
          rw [mkS_app]; simp [hdT, hz]
      have hp := preT_size b r hr
      obtain ⟨S, hS, h | h⟩ := q0
      all_goals
        obtain ⟨a2, hS2⟩ := h
        go_wp2_with fail
        go_loop [3, 5] (fun s i => ∃ c : Nat, c ≤ 4 ∧ i = .int .i64 c ∧ s = .string (mkS (hdT b r ++ rwT b r c))) (fun _ i => 4 - (intOf i).toNat)
        case atStart => exact ⟨0, by omega, rfl, congrArg Value.string ((by first | exact hS2.out | rfl : _ = S).trans (hS.out.trans (by simp [rwT])))⟩
        case round =>
          obtain ⟨c, hc, rfl, rfl⟩ := hrel
          by_cases h5 : c = 4
          · subst h5
            go_wp2
            go_round
            case rel => exact ⟨r + 1, by omega, by go_num, rfl⟩
            case measure => simp [intOf]; omega
          · have hltc : c < 4 := by omega
            have b0 : (0 : Int) ≤ c := by omega
            have b1 : (c : Int) < 4 := by omega
            obtain ⟨t0, t1⟩ := HB.out (4 * r + c) (by omega)
            obtain ⟨tn, ht⟩ : ∃ tn : Nat, b (4 * r + c) = (tn : Int) := ⟨(b (4 * r + c)).toNat, by omega⟩
            have ht17 : tn < 18 := by omega
            have d0 : (0 : Int) ≤ tn := by omega
            have d1 : (tn : Int) ≤ 17 := by omega
            have q3 : w1.cell? ⟨w.heap.size, r * 4 + c, none⟩ = some (.int .i64 (tn : Int)) := (congrArg (fun n => w1.cell? ⟨w.heap.size, n, none⟩) (by omega : r * 4 + c = 4 * r + c)).trans ((i0.1 (4 * r + c) (by omega)).trans (by simp only [ht]))
            have hm := hdT_size b r c hlt hc
            have hsub := hide (tile_sub tn ht17)
            have hrs := hide (rwT_succ b r c)
            have HT := hide ht
            clear ht t0 t1
            go_wp2
            go_round
            case rel => exact ⟨c + 1, by omega, by go_num, congrArg Value.string (by
              rw [hsub.out, hrs.out, HT.out]
              show _ ++ (⟨[ltr tn].toArray⟩ : ByteArray) = _
              rw [mkS_app, List.append_assoc]; rfl)⟩
            case measure => simp [intOf]; omega

end Go.Proofs.Ytjnmdhnckmmdnaa
