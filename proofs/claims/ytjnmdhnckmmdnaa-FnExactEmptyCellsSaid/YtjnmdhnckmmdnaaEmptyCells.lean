/-
  Contracts: EmptyCells, the program's and the reference's.
-/
import Derived.Test.YtjnmdhnckmmdnaaEmptyJ
namespace Go.Proofs.Ytjnmdhnckmmdnaa
open Go.RowKit

theorem emC_ints (b : Nat → Int) : emC b 16 = ints (plF (emL b 16)) := by
  simp [emC, ints, plF, List.map_flatMap]
def emO (b : Nat → Int) : List Nat := if bdB b = true then emL b 16 else []
theorem emO_len (b : Nat → Int) : (emO b).length ≤ 16 := by
  have := emL_len b 16
  unfold emO; split
  · exact this
  · simp

set_option maxHeartbeats 4000000 in
theorem empty_any (b : Nat → Int) (w : World) : Calls Try.prog 109 #[.agg #[.int .i64 (b 0), .int .i64 (b 1), .int .i64 (b 2), .int .i64 (b 3), .int .i64 (b 4), .int .i64 (b 5), .int .i64 (b 6), .int .i64 (b 7), .int .i64 (b 8), .int .i64 (b 9), .int .i64 (b 10), .int .i64 (b 11), .int .i64 (b 12), .int .i64 (b 13), .int .i64 (b 14), .int .i64 (b 15)]] w fun e w' => ∃ A cap, e = .returned (.slice A (emL b 16).length cap) ∧ Sl w' w.heap.size A ((emL b 16).length * 2) (fI (plF (emL b 16))) ∧ Below w.heap.size w w' := by
  go_enter Try.func109, Try.ntmps109
  go_upto_region 1 with (fail)
  generalize hW : w.alloc _ = w1
  have hB : Below w.heap.size w w1 := by (rw [← hW]; exact (by repeat (first | (with_reducible exact Below.refl _ _) | (with_reducible assumption) | (with_reducible refine below_go ?_ (by with_reducible assumption)) | (with_reducible refine below_new ?_ _) | ((with_reducible refine below_put ?_ ?_ _); rotate_left; (dsimp only; omega)) | (with_reducible refine Below.drew ?_) | (with_reducible refine below_dn ?_ _))))
  have hsz : Hid (w1.heap.size = w.heap.size + 1) := hide (by rw [← hW]; simp)
  have i0 : Has w1 (w.heap.size) 16 (fun o => .int .i64 (b o)) := by (rw [← hW]; repeat (first | (refine Has.new ?_ rfl; simp; done) | refine Has.alloc ?_ _))
  have ci0 := i0.1; have fi0 := i0.2.1; have zi0 := i0.2.2
  clear hW
  go_wp2_with (go_at_call 92; (with_reducible refine (cells_any _).mono ?_); rintro e w2 ⟨g, cap, rfl, hg, hcap, iC, hb2⟩; have hB' : Below w.heap.size w w2 := below_go (by repeat (first | (with_reducible exact Below.refl _ _) | (with_reducible assumption) | (with_reducible refine below_go ?_ (by with_reducible assumption)) | (with_reducible refine below_new ?_ _) | ((with_reducible refine below_put ?_ ?_ _); rotate_left; (dsimp only; omega)) | (with_reducible refine Below.drew ?_) | (with_reducible refine below_dn ?_ _))) hb2; have i0' : Has w2 (w.heap.size) 16 _ := Has.call (by repeat (first | (with_reducible assumption) | (with_reducible apply Has.set) | ((with_reducible apply Has.other); (case hne => (dsimp only; omega))) | (with_reducible apply Has.alloc) | (with_reducible apply Has.drew) | (with_reducible apply Has.drewN))) hb2; clear hB hb2; have hB := hB'; clear hB'; (try clear fi0); (try clear zi0); (try clear ci0); clear i0; have i0 := i0'; clear i0'; have ci0 := i0.1; have fi0 := i0.2.1; have zi0 := i0.2.2)
  have hg1 : w.heap.size < g := by have := hsz.out; omega
  refine (deleteDel_any b w.heap.size g w.heap.size cap hcap _ (by have := hB.size; omega) (by omega) (by omega) i0 iC).mono ?_
  rintro e w3 ⟨rfl, hb3, hS⟩
  have hB3 := hB.trans hb3
  clear hb3 hB iC i0
  go_wp2
  go_ret
  exact ⟨_, _, rfl, hS, hB3⟩

set_option maxHeartbeats 4000000 in
set_option maxRecDepth 100000 in
theorem emptyCells_own (b : Nat → Int) (w : World) : Calls Try.prog 49 #[.agg #[.int .i64 (b 0), .int .i64 (b 1), .int .i64 (b 2), .int .i64 (b 3), .int .i64 (b 4), .int .i64 (b 5), .int .i64 (b 6), .int .i64 (b 7), .int .i64 (b 8), .int .i64 (b 9), .int .i64 (b 10), .int .i64 (b 11), .int .i64 (b 12), .int .i64 (b 13), .int .i64 (b 14), .int .i64 (b 15)]] w fun e w' => ∃ A cap, e = .returned (.tuple #[.slice A (emO b).length cap, .bool (bdB b)]) ∧ Sl w' w.heap.size A ((emO b).length * 2) (fI (plF (emO b))) ∧ Below w.heap.size w w' := by
  cases hb : bdB b
  · have e0 : emO b = [] := by simp [emO, hb]
    rw [e0]
    clear e0
    go_enter Try.func49, Try.ntmps49
    go_upto_region 1 with (fail)
    generalize hW : w.alloc _ = w1
    have hB : Below w.heap.size w w1 := by (rw [← hW]; exact (by repeat (first | (with_reducible exact Below.refl _ _) | (with_reducible assumption) | (with_reducible refine below_go ?_ (by with_reducible assumption)) | (with_reducible refine below_new ?_ _) | ((with_reducible refine below_put ?_ ?_ _); rotate_left; (dsimp only; omega)) | (with_reducible refine Below.drew ?_) | (with_reducible refine below_dn ?_ _))))
    have hsz : Hid (w1.heap.size = w.heap.size + 1) := hide (by rw [← hW]; simp)
    have i0 : Has w1 (w.heap.size) 16 (fun o => .int .i64 (b o)) := by (rw [← hW]; repeat (first | (refine Has.new ?_ rfl; simp; done) | refine Has.alloc ?_ _))
    have ci0 := i0.1; have fi0 := i0.2.1; have zi0 := i0.2.2
    clear hW
    go_wp2_with (first | (go_at_call 91; (with_reducible refine (Calls.bool_as (isBoard_any b _) hb).mono ?_); rintro e w2 ⟨rfl, hb2⟩; have hB' : Below w.heap.size w w2 := below_go (by repeat (first | (with_reducible exact Below.refl _ _) | (with_reducible assumption) | (with_reducible refine below_go ?_ (by with_reducible assumption)) | (with_reducible refine below_new ?_ _) | ((with_reducible refine below_put ?_ ?_ _); rotate_left; (dsimp only; omega)) | (with_reducible refine Below.drew ?_) | (with_reducible refine below_dn ?_ _))) hb2; have i0' : Has w2 (w.heap.size) 16 _ := Has.call (by repeat (first | (with_reducible assumption) | (with_reducible apply Has.set) | ((with_reducible apply Has.other); (case hne => (dsimp only; omega))) | (with_reducible apply Has.alloc) | (with_reducible apply Has.drew) | (with_reducible apply Has.drewN))) hb2; clear hB hb2; have hB := hB'; clear hB'; (try clear fi0); (try clear zi0); (try clear ci0); clear i0; have i0 := i0'; clear i0'; have ci0 := i0.1; have fi0 := i0.2.1; have zi0 := i0.2.2) | (refine load_Board rfl _ rfl _ _ rfl (by repeat (first | (with_reducible assumption) | (with_reducible apply Has.set) | ((with_reducible apply Has.other); (case hne => (dsimp only; omega))) | (with_reducible apply Has.alloc) | (with_reducible apply Has.drew) | (with_reducible apply Has.drewN))) (by omega) ?_))
    go_ret2
    exact ⟨_, _, rfl, sl_zero _ _ _ _, (by repeat (first | (with_reducible exact Below.refl _ _) | (with_reducible assumption) | (with_reducible refine below_go ?_ (by with_reducible assumption)) | (with_reducible refine below_new ?_ _) | ((with_reducible refine below_put ?_ ?_ _); rotate_left; (dsimp only; omega)) | (with_reducible refine Below.drew ?_) | (with_reducible refine below_dn ?_ _)))⟩
  · have e0 := hide (show emO b = emL b 16 from if_pos hb)
    rw [e0.out]
    go_enter Try.func49, Try.ntmps49
    go_upto_region 1 with (fail)
    generalize hW : w.alloc _ = w1
    have hB : Below w.heap.size w w1 := by (rw [← hW]; exact (by repeat (first | (with_reducible exact Below.refl _ _) | (with_reducible assumption) | (with_reducible refine below_go ?_ (by with_reducible assumption)) | (with_reducible refine below_new ?_ _) | ((with_reducible refine below_put ?_ ?_ _); rotate_left; (dsimp only; omega)) | (with_reducible refine Below.drew ?_) | (with_reducible refine below_dn ?_ _))))
    have hsz : Hid (w1.heap.size = w.heap.size + 1) := hide (by rw [← hW]; simp)
    have i0 : Has w1 (w.heap.size) 16 (fun o => .int .i64 (b o)) := by (rw [← hW]; repeat (first | (refine Has.new ?_ rfl; simp; done) | refine Has.alloc ?_ _))
    have ci0 := i0.1; have fi0 := i0.2.1; have zi0 := i0.2.2
    clear hW
    go_wp2_with (first | (go_at_call 91; (with_reducible refine (Calls.bool_as (isBoard_any b _) hb).mono ?_); rintro e w2 ⟨rfl, hb2⟩; have hB' : Below w.heap.size w w2 := below_go (by repeat (first | (with_reducible exact Below.refl _ _) | (with_reducible assumption) | (with_reducible refine below_go ?_ (by with_reducible assumption)) | (with_reducible refine below_new ?_ _) | ((with_reducible refine below_put ?_ ?_ _); rotate_left; (dsimp only; omega)) | (with_reducible refine Below.drew ?_) | (with_reducible refine below_dn ?_ _))) hb2; have i0' : Has w2 (w.heap.size) 16 _ := Has.call (by repeat (first | (with_reducible assumption) | (with_reducible apply Has.set) | ((with_reducible apply Has.other); (case hne => (dsimp only; omega))) | (with_reducible apply Has.alloc) | (with_reducible apply Has.drew) | (with_reducible apply Has.drewN))) hb2; clear hB hb2; have hB := hB'; clear hB'; (try clear fi0); (try clear zi0); (try clear ci0); clear i0; have i0 := i0'; clear i0'; have ci0 := i0.1; have fi0 := i0.2.1; have zi0 := i0.2.2) | (refine load_Board rfl _ rfl _ _ rfl (by repeat (first | (with_reducible assumption) | (with_reducible apply Has.set) | ((with_reducible apply Has.other); (case hne => (dsimp only; omega))) | (with_reducible apply Has.alloc) | (with_reducible apply Has.drew) | (with_reducible apply Has.drewN))) (by omega) ?_) | (go_at_call 109; (with_reducible refine (empty_any _ _).mono ?_); rintro e w2 ⟨A, cap, rfl, hS, hb2⟩; have hS := hS.mono (Nat.le_of_lt zi0); have hB' : Below w.heap.size w w2 := below_go (by repeat (first | (with_reducible exact Below.refl _ _) | (with_reducible assumption) | (with_reducible refine below_go ?_ (by with_reducible assumption)) | (with_reducible refine below_new ?_ _) | ((with_reducible refine below_put ?_ ?_ _); rotate_left; (dsimp only; omega)) | (with_reducible refine Below.drew ?_) | (with_reducible refine below_dn ?_ _))) hb2; have i0' : Has w2 (w.heap.size) 16 _ := Has.call (by repeat (first | (with_reducible assumption) | (with_reducible apply Has.set) | ((with_reducible apply Has.other); (case hne => (dsimp only; omega))) | (with_reducible apply Has.alloc) | (with_reducible apply Has.drew) | (with_reducible apply Has.drewN))) hb2; clear hB hb2; have hB := hB'; clear hB'; (try clear fi0); (try clear zi0); (try clear ci0); clear i0; have i0 := i0'; clear i0'; have ci0 := i0.1; have fi0 := i0.2.1; have zi0 := i0.2.2))
    go_ret2
    exact ⟨_, _, rfl, hS, (by repeat (first | (with_reducible exact Below.refl _ _) | (with_reducible assumption) | (with_reducible refine below_go ?_ (by with_reducible assumption)) | (with_reducible refine below_new ?_ _) | ((with_reducible refine below_put ?_ ?_ _); rotate_left; (dsimp only; omega)) | (with_reducible refine Below.drew ?_) | (with_reducible refine below_dn ?_ _)))⟩

set_option maxHeartbeats 4000000 in
set_option maxRecDepth 100000 in
theorem specEmptyCells_own (b : Nat → Int) (w : World) : Calls Try.prog 48 #[.agg #[.int .i64 (b 0), .int .i64 (b 1), .int .i64 (b 2), .int .i64 (b 3), .int .i64 (b 4), .int .i64 (b 5), .int .i64 (b 6), .int .i64 (b 7), .int .i64 (b 8), .int .i64 (b 9), .int .i64 (b 10), .int .i64 (b 11), .int .i64 (b 12), .int .i64 (b 13), .int .i64 (b 14), .int .i64 (b 15)]] w fun e w' => ∃ A cap, e = .returned (.tuple #[.slice A (emO b).length cap, .bool (bdB b)]) ∧ Sl w' w.heap.size A ((emO b).length * 2) (fI (plF (emO b))) ∧ Below w.heap.size w w' := by
  cases hb : bdB b
  · have e0 : emO b = [] := by simp [emO, hb]
    rw [e0]
    clear e0
    go_enter Try.func48, Try.ntmps48
    go_upto_region 1 with (fail)
    generalize hW : w.alloc _ = w1
    have hB : Below w.heap.size w w1 := by (rw [← hW]; exact (by repeat (first | (with_reducible exact Below.refl _ _) | (with_reducible assumption) | (with_reducible refine below_go ?_ (by with_reducible assumption)) | (with_reducible refine below_new ?_ _) | ((with_reducible refine below_put ?_ ?_ _); rotate_left; (dsimp only; omega)) | (with_reducible refine Below.drew ?_) | (with_reducible refine below_dn ?_ _))))
    have hsz : Hid (w1.heap.size = w.heap.size + 1) := hide (by rw [← hW]; simp)
    have i0 : Has w1 (w.heap.size) 16 (fun o => .int .i64 (b o)) := by (rw [← hW]; repeat (first | (refine Has.new ?_ rfl; simp; done) | refine Has.alloc ?_ _))
    have ci0 := i0.1; have fi0 := i0.2.1; have zi0 := i0.2.2
    clear hW
    go_wp2_with (first | (go_at_call 89; (with_reducible refine (Calls.bool_as (l2Board_any b _) hb).mono ?_); rintro e w2 ⟨rfl, hb2⟩; have hB' : Below w.heap.size w w2 := below_go (by repeat (first | (with_reducible exact Below.refl _ _) | (with_reducible assumption) | (with_reducible refine below_go ?_ (by with_reducible assumption)) | (with_reducible refine below_new ?_ _) | ((with_reducible refine below_put ?_ ?_ _); rotate_left; (dsimp only; omega)) | (with_reducible refine Below.drew ?_) | (with_reducible refine below_dn ?_ _))) hb2; have i0' : Has w2 (w.heap.size) 16 _ := Has.call (by repeat (first | (with_reducible assumption) | (with_reducible apply Has.set) | ((with_reducible apply Has.other); (case hne => (dsimp only; omega))) | (with_reducible apply Has.alloc) | (with_reducible apply Has.drew) | (with_reducible apply Has.drewN))) hb2; clear hB hb2; have hB := hB'; clear hB'; (try clear fi0); (try clear zi0); (try clear ci0); clear i0; have i0 := i0'; clear i0'; have ci0 := i0.1; have fi0 := i0.2.1; have zi0 := i0.2.2) | (refine load_Board rfl _ rfl _ _ rfl (by repeat (first | (with_reducible assumption) | (with_reducible apply Has.set) | ((with_reducible apply Has.other); (case hne => (dsimp only; omega))) | (with_reducible apply Has.alloc) | (with_reducible apply Has.drew) | (with_reducible apply Has.drewN))) (by omega) ?_))
    go_ret2
    exact ⟨_, _, rfl, sl_zero _ _ _ _, (by repeat (first | (with_reducible exact Below.refl _ _) | (with_reducible assumption) | (with_reducible refine below_go ?_ (by with_reducible assumption)) | (with_reducible refine below_new ?_ _) | ((with_reducible refine below_put ?_ ?_ _); rotate_left; (dsimp only; omega)) | (with_reducible refine Below.drew ?_) | (with_reducible refine below_dn ?_ _)))⟩
  · have e0 := hide (show emO b = emL b 16 from if_pos hb)
    rw [e0.out]
    have hE := hide (emC_ints b)
    go_enter Try.func48, Try.ntmps48
    go_upto_region 1 with (fail)
    generalize hW : w.alloc _ = w1
    have hB : Below w.heap.size w w1 := by (rw [← hW]; exact (by repeat (first | (with_reducible exact Below.refl _ _) | (with_reducible assumption) | (with_reducible refine below_go ?_ (by with_reducible assumption)) | (with_reducible refine below_new ?_ _) | ((with_reducible refine below_put ?_ ?_ _); rotate_left; (dsimp only; omega)) | (with_reducible refine Below.drew ?_) | (with_reducible refine below_dn ?_ _))))
    have hsz : Hid (w1.heap.size = w.heap.size + 1) := hide (by rw [← hW]; simp)
    have i0 : Has w1 (w.heap.size) 16 (fun o => .int .i64 (b o)) := by (rw [← hW]; repeat (first | (refine Has.new ?_ rfl; simp; done) | refine Has.alloc ?_ _))
    have ci0 := i0.1; have fi0 := i0.2.1; have zi0 := i0.2.2
    clear hW
    go_wp2_with (first | (go_at_call 89; (with_reducible refine (Calls.bool_as (l2Board_any b _) hb).mono ?_); rintro e w2 ⟨rfl, hb2⟩; have hB' : Below w.heap.size w w2 := below_go (by repeat (first | (with_reducible exact Below.refl _ _) | (with_reducible assumption) | (with_reducible refine below_go ?_ (by with_reducible assumption)) | (with_reducible refine below_new ?_ _) | ((with_reducible refine below_put ?_ ?_ _); rotate_left; (dsimp only; omega)) | (with_reducible refine Below.drew ?_) | (with_reducible refine below_dn ?_ _))) hb2; have i0' : Has w2 (w.heap.size) 16 _ := Has.call (by repeat (first | (with_reducible assumption) | (with_reducible apply Has.set) | ((with_reducible apply Has.other); (case hne => (dsimp only; omega))) | (with_reducible apply Has.alloc) | (with_reducible apply Has.drew) | (with_reducible apply Has.drewN))) hb2; clear hB hb2; have hB := hB'; clear hB'; (try clear fi0); (try clear zi0); (try clear ci0); clear i0; have i0 := i0'; clear i0'; have ci0 := i0.1; have fi0 := i0.2.1; have zi0 := i0.2.2) | (refine load_Board rfl _ rfl _ _ rfl (by repeat (first | (with_reducible assumption) | (with_reducible apply Has.set) | ((with_reducible apply Has.other); (case hne => (dsimp only; omega))) | (with_reducible apply Has.alloc) | (with_reducible apply Has.drew) | (with_reducible apply Has.drewN))) (by omega) ?_) | (go_at_call 108; (with_reducible refine (l2Empty_own _ _).mono ?_); rintro e w2 ⟨v, rfl, hown, hb2⟩; have hown := own_base hown (Nat.le_of_lt zi0); rw [hE.out] at hown; obtain ⟨A, cap, rfl, hS⟩ := cells_sl hown; clear hown; have hB' : Below w.heap.size w w2 := below_go (by repeat (first | (with_reducible exact Below.refl _ _) | (with_reducible assumption) | (with_reducible refine below_go ?_ (by with_reducible assumption)) | (with_reducible refine below_new ?_ _) | ((with_reducible refine below_put ?_ ?_ _); rotate_left; (dsimp only; omega)) | (with_reducible refine Below.drew ?_) | (with_reducible refine below_dn ?_ _))) hb2; have i0' : Has w2 (w.heap.size) 16 _ := Has.call (by repeat (first | (with_reducible assumption) | (with_reducible apply Has.set) | ((with_reducible apply Has.other); (case hne => (dsimp only; omega))) | (with_reducible apply Has.alloc) | (with_reducible apply Has.drew) | (with_reducible apply Has.drewN))) hb2; clear hB hb2; have hB := hB'; clear hB'; (try clear fi0); (try clear zi0); (try clear ci0); clear i0; have i0 := i0'; clear i0'; have ci0 := i0.1; have fi0 := i0.2.1; have zi0 := i0.2.2))
    go_ret2
    exact ⟨_, _, rfl, hS, (by repeat (first | (with_reducible exact Below.refl _ _) | (with_reducible assumption) | (with_reducible refine below_go ?_ (by with_reducible assumption)) | (with_reducible refine below_new ?_ _) | ((with_reducible refine below_put ?_ ?_ _); rotate_left; (dsimp only; omega)) | (with_reducible refine Below.drew ?_) | (with_reducible refine below_dn ?_ _)))⟩

end Go.Proofs.Ytjnmdhnckmmdnaa
