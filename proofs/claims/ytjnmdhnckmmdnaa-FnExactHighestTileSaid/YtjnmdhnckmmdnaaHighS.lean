/-
  Contract: HighestTile, the reference's.
-/
import Derived.Test.YtjnmdhnckmmdnaaHigh
namespace Go.Proofs.Ytjnmdhnckmmdnaa
open Go.RowKit

theorem keepZ {w' : World} {B0 : Nat} {x : Value} (h0 : Has w' B0 2 (fun _ => x)) : w'.cell? ⟨B0, 0, none⟩ = some x ∧ w'.cell? ⟨B0, 1, none⟩ = some x := ⟨h0.1 0 (by omega), h0.1 1 (by omega)⟩

set_option maxHeartbeats 8000000 in
set_option maxRecDepth 100000 in
theorem specHighestTile_any (b : Nat → Int) (w : World) : Calls Try.prog 35 #[.agg #[.int .i64 (b 0), .int .i64 (b 1), .int .i64 (b 2), .int .i64 (b 3), .int .i64 (b 4), .int .i64 (b 5), .int .i64 (b 6), .int .i64 (b 7), .int .i64 (b 8), .int .i64 (b 9), .int .i64 (b 10), .int .i64 (b 11), .int .i64 (b 12), .int .i64 (b 13), .int .i64 (b 14), .int .i64 (b 15)]] w fun e w' => e = .returned (.tuple #[.int .i64 (zr (bdB b) (hiT b 16)), .agg #[.int .i64 (hiX b), .int .i64 (hiY b)], .bool (hiOk b)]) ∧ Below w.heap.size w w' := by
  cases hb : bdB b
  · have e1 : hiX b = 0 := by simp [hiX, hb, zr]
    have e2 : hiY b = 0 := by simp [hiY, hb, zr]
    have e3 : hiOk b = false := by simp [hiOk, hb]
    rw [e1, e2, e3]
    simp only [zr_false]
    clear e1 e2 e3
    go_enter Try.func35, Try.ntmps35
    go_upto_region 2 with (fail)
    generalize hW : ((w.alloc _).alloc _).alloc _ = w1
    have hB : Below w.heap.size w w1 := by (rw [← hW]; exact (by repeat (first | (with_reducible exact Below.refl _ _) | (with_reducible assumption) | (with_reducible refine below_go ?_ (by with_reducible assumption)) | (with_reducible refine below_new ?_ _) | ((with_reducible refine below_put ?_ ?_ _); rotate_left; (dsimp only; omega)) | (with_reducible refine Below.drew ?_) | (with_reducible refine below_dn ?_ _))))
    have hsz : Hid (w1.heap.size = w.heap.size + 1 + 1 + 1) := hide (by rw [← hW]; simp)
    have i0 : Has w1 (w.heap.size) 16 (fun o => .int .i64 (b o)) := by (rw [← hW]; repeat (first | (refine Has.new ?_ rfl; simp; done) | refine Has.alloc ?_ _))
    have ci0 := i0.1; have fi0 := i0.2.1; have zi0 := i0.2.2
    have i1 : Has w1 (w.heap.size + 1) 2 (fun _ => .int .i64 0) := by (rw [← hW]; repeat (first | (refine Has.new ?_ rfl; simp; done) | refine Has.alloc ?_ _))
    have ci1 := i1.1; have fi1 := i1.2.1; have zi1 := i1.2.2
    have i2 : Has w1 (w.heap.size + 1 + 1) 2 (fun _ => .int .i64 0) := by (rw [← hW]; repeat (first | (refine Has.new ?_ rfl; simp; done) | refine Has.alloc ?_ _))
    have ci2 := i2.1; have fi2 := i2.2.1; have zi2 := i2.2.2
    clear hW
    go_upto_region 3 with (first | (go_at_call 89; (with_reducible refine (Calls.bool_as (l2Board_any b _) hb).mono ?_); rintro e w2 ⟨rfl, hb2⟩; have hB' : Below w.heap.size w w2 := below_go (by repeat (first | (with_reducible exact Below.refl _ _) | (with_reducible assumption) | (with_reducible refine below_go ?_ (by with_reducible assumption)) | (with_reducible refine below_new ?_ _) | ((with_reducible refine below_put ?_ ?_ _); rotate_left; (dsimp only; omega)) | (with_reducible refine Below.drew ?_) | (with_reducible refine below_dn ?_ _))) hb2; have i0' : Has w2 (w.heap.size) 16 _ := Has.call (by repeat (first | (with_reducible assumption) | (with_reducible apply Has.set) | ((with_reducible apply Has.other); (case hne => (dsimp only; omega))) | (with_reducible apply Has.alloc) | (with_reducible apply Has.drew) | (with_reducible apply Has.drewN))) hb2; have i1' : Has w2 (w.heap.size + 1) 2 _ := Has.call (by repeat (first | (with_reducible assumption) | (with_reducible apply Has.set) | ((with_reducible apply Has.other); (case hne => (dsimp only; omega))) | (with_reducible apply Has.alloc) | (with_reducible apply Has.drew) | (with_reducible apply Has.drewN))) hb2; have i2' : Has w2 (w.heap.size + 1 + 1) 2 _ := Has.call (by repeat (first | (with_reducible assumption) | (with_reducible apply Has.set) | ((with_reducible apply Has.other); (case hne => (dsimp only; omega))) | (with_reducible apply Has.alloc) | (with_reducible apply Has.drew) | (with_reducible apply Has.drewN))) hb2; clear hB hb2; have hB := hB'; clear hB'; (try clear fi0); (try clear zi0); (try clear ci0); clear i0; have i0 := i0'; clear i0'; have ci0 := i0.1; have fi0 := i0.2.1; have zi0 := i0.2.2; (try clear fi1); (try clear zi1); (try clear ci1); clear i1; have i1 := i1'; clear i1'; have ci1 := i1.1; have fi1 := i1.2.1; have zi1 := i1.2.2; (try clear fi2); (try clear zi2); (try clear ci2); clear i2; have i2 := i2'; clear i2'; have ci2 := i2.1; have fi2 := i2.2.1; have zi2 := i2.2.2) | (refine load_Board rfl _ rfl _ _ rfl (by repeat (first | (with_reducible assumption) | (with_reducible apply Has.set) | ((with_reducible apply Has.other); (case hne => (dsimp only; omega))) | (with_reducible apply Has.alloc) | (with_reducible apply Has.drew) | (with_reducible apply Has.drewN))) (by omega) ?_))
    go_region_held3 (fun w' => w'.cell? ⟨w.heap.size + 1 + 1, 0, none⟩ = some (.int .i64 0) ∧ w'.cell? ⟨w.heap.size + 1 + 1, 1, none⟩ = some (.int .i64 0)) (first
      | exact keepZ i2
      | exact keepZ (Has.drew i2)
      | exact keepZ (by repeat (first | (with_reducible assumption) | (with_reducible apply Has.set) | ((with_reducible apply Has.other); (case hne => (dsimp only; omega))) | (with_reducible apply Has.alloc) | (with_reducible apply Has.drew) | (with_reducible apply Has.drewN)))) (fail)
    all_goals
      go_wp2
      refine bodyPost_ret (results_t_cell_t rfl rfl (loadVar_A2 (by first | exact (Has.set (Has.set i1)) | exact (Has.drew (Has.set (Has.set i1)))) (by omega))) rfl ⟨rfl, (by repeat (first | (with_reducible exact Below.refl _ _) | (with_reducible assumption) | (with_reducible refine below_go ?_ (by with_reducible assumption)) | (with_reducible refine below_new ?_ _) | ((with_reducible refine below_put ?_ ?_ _); rotate_left; (dsimp only; omega)) | (with_reducible refine Below.drew ?_) | (with_reducible refine below_dn ?_ _)))⟩
  · have e1 : hiX b = ((hiP b 16 / 4 : Nat) : Int) := by simp [hiX, hb, zr]
    have e2 : hiY b = ((hiP b 16 % 4 : Nat) : Int) := by simp [hiY, hb, zr]
    have e3 : hiOk b = decide (0 < hiT b 16) := by simp [hiOk, hb]
    rw [e1, e2, e3]
    simp only [zr_true]
    clear e1 e2 e3
    have HB := hide (bdB_in hb)
    go_enter Try.func35, Try.ntmps35
    go_upto_region 2 with (fail)
    generalize hW : ((w.alloc _).alloc _).alloc _ = w1
    have hB : Below w.heap.size w w1 := by (rw [← hW]; exact (by repeat (first | (with_reducible exact Below.refl _ _) | (with_reducible assumption) | (with_reducible refine below_go ?_ (by with_reducible assumption)) | (with_reducible refine below_new ?_ _) | ((with_reducible refine below_put ?_ ?_ _); rotate_left; (dsimp only; omega)) | (with_reducible refine Below.drew ?_) | (with_reducible refine below_dn ?_ _))))
    have hsz : Hid (w1.heap.size = w.heap.size + 1 + 1 + 1) := hide (by rw [← hW]; simp)
    have i0 : Has w1 (w.heap.size) 16 (fun o => .int .i64 (b o)) := by (rw [← hW]; repeat (first | (refine Has.new ?_ rfl; simp; done) | refine Has.alloc ?_ _))
    have ci0 := i0.1; have fi0 := i0.2.1; have zi0 := i0.2.2
    have i1 : Has w1 (w.heap.size + 1) 2 (fun _ => .int .i64 0) := by (rw [← hW]; repeat (first | (refine Has.new ?_ rfl; simp; done) | refine Has.alloc ?_ _))
    have ci1 := i1.1; have fi1 := i1.2.1; have zi1 := i1.2.2
    have i2 : Has w1 (w.heap.size + 1 + 1) 2 (fun _ => .int .i64 0) := by (rw [← hW]; repeat (first | (refine Has.new ?_ rfl; simp; done) | refine Has.alloc ?_ _))
    have ci2 := i2.1; have fi2 := i2.2.1; have zi2 := i2.2.2
    clear hW
    go_upto_region 5 with (first | (go_at_call 89; (with_reducible refine (Calls.bool_as (l2Board_any b _) hb).mono ?_); rintro e w2 ⟨rfl, hb2⟩; have hB' : Below w.heap.size w w2 := below_go (by repeat (first | (with_reducible exact Below.refl _ _) | (with_reducible assumption) | (with_reducible refine below_go ?_ (by with_reducible assumption)) | (with_reducible refine below_new ?_ _) | ((with_reducible refine below_put ?_ ?_ _); rotate_left; (dsimp only; omega)) | (with_reducible refine Below.drew ?_) | (with_reducible refine below_dn ?_ _))) hb2; have i0' : Has w2 (w.heap.size) 16 _ := Has.call (by repeat (first | (with_reducible assumption) | (with_reducible apply Has.set) | ((with_reducible apply Has.other); (case hne => (dsimp only; omega))) | (with_reducible apply Has.alloc) | (with_reducible apply Has.drew) | (with_reducible apply Has.drewN))) hb2; have i1' : Has w2 (w.heap.size + 1) 2 _ := Has.call (by repeat (first | (with_reducible assumption) | (with_reducible apply Has.set) | ((with_reducible apply Has.other); (case hne => (dsimp only; omega))) | (with_reducible apply Has.alloc) | (with_reducible apply Has.drew) | (with_reducible apply Has.drewN))) hb2; have i2' : Has w2 (w.heap.size + 1 + 1) 2 _ := Has.call (by repeat (first | (with_reducible assumption) | (with_reducible apply Has.set) | ((with_reducible apply Has.other); (case hne => (dsimp only; omega))) | (with_reducible apply Has.alloc) | (with_reducible apply Has.drew) | (with_reducible apply Has.drewN))) hb2; clear hB hb2; have hB := hB'; clear hB'; (try clear fi0); (try clear zi0); (try clear ci0); clear i0; have i0 := i0'; clear i0'; have ci0 := i0.1; have fi0 := i0.2.1; have zi0 := i0.2.2; (try clear fi1); (try clear zi1); (try clear ci1); clear i1; have i1 := i1'; clear i1'; have ci1 := i1.1; have fi1 := i1.2.1; have zi1 := i1.2.2; (try clear fi2); (try clear zi2); (try clear ci2); clear i2; have i2 := i2'; clear i2'; have ci2 := i2.1; have fi2 := i2.2.1; have zi2 := i2.2.2) | (refine load_Board rfl _ rfl _ _ rfl (by repeat (first | (with_reducible assumption) | (with_reducible apply Has.set) | ((with_reducible apply Has.other); (case hne => (dsimp only; omega))) | (with_reducible apply Has.alloc) | (with_reducible apply Has.drew) | (with_reducible apply Has.drewN))) (by omega) ?_))
    have i2 := i2.congr (d := plC (hiP b (4 * 0))) (fun o _ => by unfold plC hiP; split <;> rfl)
    clear ci0 fi0 zi0 ci1 fi1 zi1 ci2 fi2 zi2 hsz
    go_loopw [5, 7] (fun v5 v wr => ∃ r : Nat, r ≤ 4 ∧ v = .int .i64 r ∧ v5 = .int .i64 (hiT b (4 * r)) ∧ Below w.heap.size w wr ∧ Has wr w.heap.size 16 (fun o => .int .i64 (b o)) ∧ Has wr (w.heap.size + 1) 2 (fun _ => .int .i64 0) ∧ Has wr (w.heap.size + 1 + 1) 2 (plC (hiP b (4 * r)))) (fun _ i _ => 4 - (intOf i).toNat)
    case atStart => exact ⟨0, by omega, rfl, rfl, hB, i0, i1, i2⟩
    case round =>
      clear hB i0 i1 i2
      obtain ⟨r, hr, rfl, rfl, hB, i0, i1, i2⟩ := hrel
      by_cases h4 : r = 4
      · subst h4
        have i2 : Has wr (w.heap.size + 1 + 1) 2 (fun o => if o = 0 then .int .i64 ((hiP b 16 / 4 : Nat) : Int) else .int .i64 ((hiP b 16 % 4 : Nat) : Int)) := i2
        have ci1 := i1.1; have fi1 := i1.2.1; have zi1 := i1.2.2
        have c0 : wr.cell? ⟨w.heap.size + 1 + 1, 0, none⟩ = some (.int .i64 ((hiP b 16 / 4 : Nat) : Int)) := two_x i2
        have c1 : wr.cell? ⟨w.heap.size + 1 + 1, 1, none⟩ = some (.int .i64 ((hiP b 16 % 4 : Nat) : Int)) := two_y i2
        go_wp2_with fail
        go_region_held3 (fun w' => w'.cell? ⟨w.heap.size + 1 + 1, 0, none⟩ = some (.int .i64 ((hiP b 16 / 4 : Nat) : Int)) ∧ w'.cell? ⟨w.heap.size + 1 + 1, 1, none⟩ = some (.int .i64 ((hiP b 16 % 4 : Nat) : Int))) (first
          | exact keepH i2
          | exact keepH (Has.drew i2)
          | exact keepH (by repeat (first | (with_reducible assumption) | (with_reducible apply Has.set) | ((with_reducible apply Has.other); (case hne => (dsimp only; omega))) | (with_reducible apply Has.alloc) | (with_reducible apply Has.drew) | (with_reducible apply Has.drewN)))) (fail)
        all_goals
          go_wp2
          refine bodyPost_ret (results_t_cell_t rfl rfl (loadVar_A2 (by first | exact (Has.set (Has.set i1)) | exact (Has.drew (Has.set (Has.set i1)))) (by omega))) rfl ⟨rfl, (by repeat (first | (with_reducible exact Below.refl _ _) | (with_reducible assumption) | (with_reducible refine below_go ?_ (by with_reducible assumption)) | (with_reducible refine below_new ?_ _) | ((with_reducible refine below_put ?_ ?_ _); rotate_left; (dsimp only; omega)) | (with_reducible refine Below.drew ?_) | (with_reducible refine below_dn ?_ _)))⟩
      · have hlt : r < 4 := by omega
        have hlti : (r : Int) < 4 := by omega
        have a0 : (0 : Int) ≤ r := by omega
        have hdr : decide ((r : Int) < 4) = true := decide_eq_true hlti
        go_wp2_with fail
        go_loopw [5, 8] (fun v5 v wr => ∃ c : Nat, c ≤ 4 ∧ v = .int .i64 c ∧ v5 = .int .i64 (hiT b (4 * r + c)) ∧ Below w.heap.size w wr ∧ Has wr w.heap.size 16 (fun o => .int .i64 (b o)) ∧ Has wr (w.heap.size + 1) 2 (fun _ => .int .i64 0) ∧ Has wr (w.heap.size + 1 + 1) 2 (plC (hiP b (4 * r + c)))) (fun _ i _ => 4 - (intOf i).toNat)
        case atStart => exact ⟨0, by omega, rfl, rfl, hB, i0, i1, i2⟩
        case round =>
          clear hB i0 i1 i2
          obtain ⟨c, hc, rfl, rfl, hB, i0, i1, i2⟩ := hrel
          by_cases h4 : c = 4
          · subst h4
            go_wp2
            go_roundw
            case rel => exact ⟨r + 1, by omega, by go_num, by rw [Nat.mul_succ], hB, i0, i1, i2⟩
            case measure => simp [intOf]; omega
          · have hltc : c < 4 := by omega
            have hltci : (c : Int) < 4 := by omega
            have a1 : (0 : Int) ≤ c := by omega
            have q1 : wr.cell? ⟨w.heap.size, r * 4 + c, none⟩ = some (.int .i64 (b (4 * r + c))) := (i0.1 _ (by omega)).trans (by rw [Nat.mul_comm])
            have zi2 := i2.2.2
            by_cases hg : hiT b (4 * r + c) < b (4 * r + c)
            · have HT := hide (show hiT b (4 * r + c + 1) = b (4 * r + c) from if_pos hg)
              have HP := hide (show hiP b (4 * r + c + 1) = 4 * r + c from if_pos hg)
              have ci2 := i2.1; have fi2 := i2.2.1
              go_wp2_with (first | (refine store_A2 rfl _ _ rfl _ _ _ _ rfl rfl rfl (by repeat (first | (with_reducible assumption) | (with_reducible apply Has.set) | ((with_reducible apply Has.other); (case hne => (dsimp only; omega))) | (with_reducible apply Has.alloc) | (with_reducible apply Has.drew) | (with_reducible apply Has.drewN))) (by omega) ?_; intro w3 ho3 hn3; have hB' : Below w.heap.size w w3 := below_only (by repeat (first | (with_reducible exact Below.refl _ _) | (with_reducible assumption) | (with_reducible refine below_go ?_ (by with_reducible assumption)) | (with_reducible refine below_new ?_ _) | ((with_reducible refine below_put ?_ ?_ _); rotate_left; (dsimp only; omega)) | (with_reducible refine Below.drew ?_) | (with_reducible refine below_dn ?_ _))) ho3 (by omega); have i0' : Has w3 (w.heap.size) 16 _ := (by first | (with_reducible exact hn3) | exact Has.only (by repeat (first | (with_reducible assumption) | (with_reducible apply Has.set) | ((with_reducible apply Has.other); (case hne => (dsimp only; omega))) | (with_reducible apply Has.alloc) | (with_reducible apply Has.drew) | (with_reducible apply Has.drewN))) ho3 (by omega)); have i1' : Has w3 (w.heap.size + 1) 2 _ := (by first | (with_reducible exact hn3) | exact Has.only (by repeat (first | (with_reducible assumption) | (with_reducible apply Has.set) | ((with_reducible apply Has.other); (case hne => (dsimp only; omega))) | (with_reducible apply Has.alloc) | (with_reducible apply Has.drew) | (with_reducible apply Has.drewN))) ho3 (by omega)); have i2' : Has w3 (w.heap.size + 1 + 1) 2 _ := (by first | (with_reducible exact hn3) | exact Has.only (by repeat (first | (with_reducible assumption) | (with_reducible apply Has.set) | ((with_reducible apply Has.other); (case hne => (dsimp only; omega))) | (with_reducible apply Has.alloc) | (with_reducible apply Has.drew) | (with_reducible apply Has.drewN))) ho3 (by omega)); clear ho3 hn3; clear hB; have hB := hB'; clear hB'; (try clear fi0); (try clear zi0); (try clear ci0); clear i0; have i0 := i0'; clear i0'; have ci0 := i0.1; have fi0 := i0.2.1; have zi0 := i0.2.2; (try clear fi1); (try clear zi1); (try clear ci1); clear i1; have i1 := i1'; clear i1'; have ci1 := i1.1; have fi1 := i1.2.1; have zi1 := i1.2.2; (try clear fi2); (try clear zi2); (try clear ci2); clear i2; have i2 := i2'; clear i2'; have ci2 := i2.1; have fi2 := i2.2.1; have zi2 := i2.2.2))
              go_roundw
              case rel => exact ⟨c + 1, by omega, by go_num, by rw [← Nat.add_assoc, HT.out], hB, i0, i1, i2.congr fun o ho => by
                rw [← Nat.add_assoc, HP.out]
                rcases (by omega : o = 0 ∨ o = 1) with rfl | rfl
                · simp [plC]; omega
                · simp [plC]; omega⟩
              case measure => simp [intOf]; omega
            · have HT := hide (show hiT b (4 * r + c + 1) = hiT b (4 * r + c) from if_neg hg)
              have HP := hide (show hiP b (4 * r + c + 1) = hiP b (4 * r + c) from if_neg hg)
              go_wp2
              go_roundw
              case rel => exact ⟨c + 1, by omega, by go_num, by rw [← Nat.add_assoc, HT.out], hB, i0, i1, by rw [← Nat.add_assoc, HP.out]; exact i2⟩
              case measure => simp [intOf]; omega

end Go.Proofs.Ytjnmdhnckmmdnaa
