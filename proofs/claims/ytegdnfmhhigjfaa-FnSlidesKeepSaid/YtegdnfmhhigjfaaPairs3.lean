/-
  Contract: EqualPairs, the reference's.
-/
import Derived.Test.YtegdnfmhhigjfaaQSumOf
import Derived.Deep.RegionHeld3
namespace Go.Proofs.Ytegdnfmhhigjfaa
open Go.RowKit

theorem l2Numbers_0 (b : Nat → Int) (i : Nat) (hi : i < 4) (w : World) : Calls Try.prog 90 #[.agg #[.int .i64 (b 0), .int .i64 (b 1), .int .i64 (b 2), .int .i64 (b 3), .int .i64 (b 4), .int .i64 (b 5), .int .i64 (b 6), .int .i64 (b 7), .int .i64 (b 8), .int .i64 (b 9), .int .i64 (b 10), .int .i64 (b 11), .int .i64 (b 12), .int .i64 (b 13), .int .i64 (b 14), .int .i64 (b 15)], .int .i64 0, .int .i64 i] w fun e w' => e = .returned (.agg #[.int .i64 ((lineOf b 0 i) 0), .int .i64 ((lineOf b 0 i) 1), .int .i64 ((lineOf b 0 i) 2), .int .i64 ((lineOf b 0 i) 3)]) ∧ Below w.heap.size w w' := l2Numbers_any b 0 i (by omega) hi w
theorem l2Numbers_1 (b : Nat → Int) (i : Nat) (hi : i < 4) (w : World) : Calls Try.prog 90 #[.agg #[.int .i64 (b 0), .int .i64 (b 1), .int .i64 (b 2), .int .i64 (b 3), .int .i64 (b 4), .int .i64 (b 5), .int .i64 (b 6), .int .i64 (b 7), .int .i64 (b 8), .int .i64 (b 9), .int .i64 (b 10), .int .i64 (b 11), .int .i64 (b 12), .int .i64 (b 13), .int .i64 (b 14), .int .i64 (b 15)], .int .i64 1, .int .i64 i] w fun e w' => e = .returned (.agg #[.int .i64 ((lineOf b 1 i) 0), .int .i64 ((lineOf b 1 i) 1), .int .i64 ((lineOf b 1 i) 2), .int .i64 ((lineOf b 1 i) 3)]) ∧ Below w.heap.size w w' := l2Numbers_any b 1 i (by omega) hi w
theorem prS_le (b : Nat → Int) (i : Nat) (hi : i ≤ 4) : 0 ≤ prS b i ∧ prS b i ≤ 24 := by
  rw [prS_eq]; have := prL_le b 0 i; have := prL_le b 1 i; omega

set_option maxHeartbeats 8000000 in
set_option maxRecDepth 100000 in
theorem specEqualPairs_any (b : Nat → Int) (w : World) : Calls Try.prog 34 #[.agg #[.int .i64 (b 0), .int .i64 (b 1), .int .i64 (b 2), .int .i64 (b 3), .int .i64 (b 4), .int .i64 (b 5), .int .i64 (b 6), .int .i64 (b 7), .int .i64 (b 8), .int .i64 (b 9), .int .i64 (b 10), .int .i64 (b 11), .int .i64 (b 12), .int .i64 (b 13), .int .i64 (b 14), .int .i64 (b 15)]] w fun e w' => e = .returned (.tuple #[.int .i64 (zr (bdB b) (prS b 4)), .bool (bdB b)]) ∧ Below w.heap.size w w' := by
  cases hb : bdB b
  · simp only [zr_false]
    go_enter Try.func34, Try.ntmps34
    go_upto_region 1 with (fail)
    generalize hW : w.alloc _ = w1
    have hB : Below w.heap.size w w1 := by (rw [← hW]; exact (by repeat (first | (with_reducible exact Below.refl _ _) | (with_reducible assumption) | (with_reducible refine below_go ?_ (by with_reducible assumption)) | (with_reducible refine below_new ?_ _) | ((with_reducible refine below_put ?_ ?_ _); rotate_left; (dsimp only; omega)) | (with_reducible refine Below.drew ?_) | (with_reducible refine below_dn ?_ _))))
    have hsz : Hid (w1.heap.size = w.heap.size + 1) := hide (by rw [← hW]; simp)
    have i0 : Has w1 (w.heap.size) 16 (fun o => .int .i64 (b o)) := by (rw [← hW]; repeat (first | (refine Has.new ?_ rfl; simp; done) | refine Has.alloc ?_ _))
    have ci0 := i0.1; have fi0 := i0.2.1; have zi0 := i0.2.2
    clear hW
    go_wp2_with (first | (go_at_call 64; (with_reducible refine (l2Board_any _ _).mono ?_); rintro e w2 ⟨rfl, hb2⟩; have hB' : Below w.heap.size w w2 := below_go (by repeat (first | (with_reducible exact Below.refl _ _) | (with_reducible assumption) | (with_reducible refine below_go ?_ (by with_reducible assumption)) | (with_reducible refine below_new ?_ _) | ((with_reducible refine below_put ?_ ?_ _); rotate_left; (dsimp only; omega)) | (with_reducible refine Below.drew ?_) | (with_reducible refine below_dn ?_ _))) hb2; have i0' : Has w2 (w.heap.size) 16 _ := Has.call (by repeat (first | (with_reducible assumption) | (with_reducible apply Has.set) | ((with_reducible apply Has.other); (case hne => (dsimp only; omega))) | (with_reducible apply Has.alloc) | (with_reducible apply Has.drew) | (with_reducible apply Has.drewN))) hb2; clear hB hb2; have hB := hB'; clear hB'; (try clear fi0); (try clear zi0); (try clear ci0); clear i0; have i0 := i0'; clear i0'; have ci0 := i0.1; have fi0 := i0.2.1; have zi0 := i0.2.2) | (refine load_Board rfl _ rfl _ _ rfl (by repeat (first | (with_reducible assumption) | (with_reducible apply Has.set) | ((with_reducible apply Has.other); (case hne => (dsimp only; omega))) | (with_reducible apply Has.alloc) | (with_reducible apply Has.drew) | (with_reducible apply Has.drewN))) (by omega) ?_))
    go_ret2
    exact ⟨rfl, (by repeat (first | (with_reducible exact Below.refl _ _) | (with_reducible assumption) | (with_reducible refine below_go ?_ (by with_reducible assumption)) | (with_reducible refine below_new ?_ _) | ((with_reducible refine below_put ?_ ?_ _); rotate_left; (dsimp only; omega)) | (with_reducible refine Below.drew ?_) | (with_reducible refine below_dn ?_ _)))⟩
  · simp only [zr_true]
    go_enter Try.func34, Try.ntmps34
    go_upto_region 1 with (fail)
    generalize hW : w.alloc _ = w1
    have hB : Below w.heap.size w w1 := by (rw [← hW]; exact (by repeat (first | (with_reducible exact Below.refl _ _) | (with_reducible assumption) | (with_reducible refine below_go ?_ (by with_reducible assumption)) | (with_reducible refine below_new ?_ _) | ((with_reducible refine below_put ?_ ?_ _); rotate_left; (dsimp only; omega)) | (with_reducible refine Below.drew ?_) | (with_reducible refine below_dn ?_ _))))
    have hsz : Hid (w1.heap.size = w.heap.size + 1) := hide (by rw [← hW]; simp)
    have i0 : Has w1 (w.heap.size) 16 (fun o => .int .i64 (b o)) := by (rw [← hW]; repeat (first | (refine Has.new ?_ rfl; simp; done) | refine Has.alloc ?_ _))
    have ci0 := i0.1; have fi0 := i0.2.1; have zi0 := i0.2.2
    clear hW
    go_upto_region 5 with (first | (go_at_call 64; (with_reducible refine (l2Board_any _ _).mono ?_); rintro e w2 ⟨rfl, hb2⟩; have hB' : Below w.heap.size w w2 := below_go (by repeat (first | (with_reducible exact Below.refl _ _) | (with_reducible assumption) | (with_reducible refine below_go ?_ (by with_reducible assumption)) | (with_reducible refine below_new ?_ _) | ((with_reducible refine below_put ?_ ?_ _); rotate_left; (dsimp only; omega)) | (with_reducible refine Below.drew ?_) | (with_reducible refine below_dn ?_ _))) hb2; have i0' : Has w2 (w.heap.size) 16 _ := Has.call (by repeat (first | (with_reducible assumption) | (with_reducible apply Has.set) | ((with_reducible apply Has.other); (case hne => (dsimp only; omega))) | (with_reducible apply Has.alloc) | (with_reducible apply Has.drew) | (with_reducible apply Has.drewN))) hb2; clear hB hb2; have hB := hB'; clear hB'; (try clear fi0); (try clear zi0); (try clear ci0); clear i0; have i0 := i0'; clear i0'; have ci0 := i0.1; have fi0 := i0.2.1; have zi0 := i0.2.2) | (refine load_Board rfl _ rfl _ _ rfl (by repeat (first | (with_reducible assumption) | (with_reducible apply Has.set) | ((with_reducible apply Has.other); (case hne => (dsimp only; omega))) | (with_reducible apply Has.alloc) | (with_reducible apply Has.drew) | (with_reducible apply Has.drewN))) (by omega) ?_))
    clear ci0 fi0 zi0 hsz
    go_loopw [4, 5] (fun v4 v5 wr => ∃ i : Nat, i ≤ 4 ∧ v5 = .int .i64 i ∧ v4 = .int .i64 (prS b i) ∧ Below w.heap.size w wr ∧ Has wr w.heap.size 16 (fun o => .int .i64 (b o))) (fun _ i _ => 4 - (intOf i).toNat)
    case atStart => exact ⟨0, by omega, rfl, rfl, hB, i0⟩
    case round =>
      clear hB i0
      obtain ⟨i, hi, rfl, rfl, hB, i0⟩ := hrel
      by_cases h4 : i = 4
      · subst h4
        go_wp2
        go_ret2
        exact ⟨rfl, hB⟩
      · have hlt : i < 4 := by omega
        obtain ⟨e0, e1⟩ := prS_le b i hi
        obtain ⟨f0, f1⟩ := prT_le (lineOf b 0 i) 3
        obtain ⟨g0, g1⟩ := prT_le (lineOf b 1 i) 3
        have zi0 := i0.2.2
        go_wp2_with fail
        have ci0 := i0.1
        have s1 : IntKind.i64.wrap (prS b i + prT (lineOf b 0 i) 3) = prS b i + prT (lineOf b 0 i) 3 := IntWalk.i64_in _ (by omega)
        have s2 : IntKind.i64.wrap (prS b i + prT (lineOf b 0 i) 3 + prT (lineOf b 1 i) 3) = prS b i + prT (lineOf b 0 i) 3 + prT (lineOf b 1 i) 3 := IntWalk.i64_in _ (by omega)
        go_region_held3 (fun w' => w'.cell? ⟨w.heap.size, 0, none⟩ = some (.int .i64 (b 0)) ∧ w'.cell? ⟨w.heap.size, 1, none⟩ = some (.int .i64 (b 1)) ∧ w'.cell? ⟨w.heap.size, 2, none⟩ = some (.int .i64 (b 2)) ∧ w'.cell? ⟨w.heap.size, 3, none⟩ = some (.int .i64 (b 3)) ∧ w'.cell? ⟨w.heap.size, 4, none⟩ = some (.int .i64 (b 4)) ∧ w'.cell? ⟨w.heap.size, 5, none⟩ = some (.int .i64 (b 5)) ∧ w'.cell? ⟨w.heap.size, 6, none⟩ = some (.int .i64 (b 6)) ∧ w'.cell? ⟨w.heap.size, 7, none⟩ = some (.int .i64 (b 7)) ∧ w'.cell? ⟨w.heap.size, 8, none⟩ = some (.int .i64 (b 8)) ∧ w'.cell? ⟨w.heap.size, 9, none⟩ = some (.int .i64 (b 9)) ∧ w'.cell? ⟨w.heap.size, 10, none⟩ = some (.int .i64 (b 10)) ∧ w'.cell? ⟨w.heap.size, 11, none⟩ = some (.int .i64 (b 11)) ∧ w'.cell? ⟨w.heap.size, 12, none⟩ = some (.int .i64 (b 12)) ∧ w'.cell? ⟨w.heap.size, 13, none⟩ = some (.int .i64 (b 13)) ∧ w'.cell? ⟨w.heap.size, 14, none⟩ = some (.int .i64 (b 14)) ∧ w'.cell? ⟨w.heap.size, 15, none⟩ = some (.int .i64 (b 15)) ∧ True) (first
          | exact ⟨(i0).1 _ (by omega), (i0).1 _ (by omega), (i0).1 _ (by omega), (i0).1 _ (by omega), (i0).1 _ (by omega), (i0).1 _ (by omega), (i0).1 _ (by omega), (i0).1 _ (by omega), (i0).1 _ (by omega), (i0).1 _ (by omega), (i0).1 _ (by omega), (i0).1 _ (by omega), (i0).1 _ (by omega), (i0).1 _ (by omega), (i0).1 _ (by omega), (i0).1 _ (by omega), trivial⟩
          | exact ⟨(i0.drew).1 _ (by omega), (i0.drew).1 _ (by omega), (i0.drew).1 _ (by omega), (i0.drew).1 _ (by omega), (i0.drew).1 _ (by omega), (i0.drew).1 _ (by omega), (i0.drew).1 _ (by omega), (i0.drew).1 _ (by omega), (i0.drew).1 _ (by omega), (i0.drew).1 _ (by omega), (i0.drew).1 _ (by omega), (i0.drew).1 _ (by omega), (i0.drew).1 _ (by omega), (i0.drew).1 _ (by omega), (i0.drew).1 _ (by omega), (i0.drew).1 _ (by omega), trivial⟩)
          (first | (go_at_call 90; (with_reducible refine (l2Numbers_0 _ _ hlt _).mono ?_); rintro e w2 ⟨rfl, hb2⟩; have hB' : Below w.heap.size w w2 := below_go (by repeat (first | (with_reducible exact Below.refl _ _) | (with_reducible assumption) | (with_reducible refine below_go ?_ (by with_reducible assumption)) | (with_reducible refine below_new ?_ _) | ((with_reducible refine below_put ?_ ?_ _); rotate_left; (dsimp only; omega)) | (with_reducible refine Below.drew ?_) | (with_reducible refine below_dn ?_ _))) hb2; have i0' : Has w2 (w.heap.size) 16 _ := Has.call (by repeat (first | (with_reducible assumption) | (with_reducible apply Has.set) | ((with_reducible apply Has.other); (case hne => (dsimp only; omega))) | (with_reducible apply Has.alloc) | (with_reducible apply Has.drew) | (with_reducible apply Has.drewN))) hb2; clear hB hb2; have hB := hB'; clear hB'; (try clear fi0); (try clear zi0); (try clear ci0); clear i0; have i0 := i0'; clear i0'; have ci0 := i0.1; have fi0 := i0.2.1; have zi0 := i0.2.2) | (go_at_call 90; (with_reducible refine (l2Numbers_1 _ _ hlt _).mono ?_); rintro e w2 ⟨rfl, hb2⟩; have hB' : Below w.heap.size w w2 := below_go (by repeat (first | (with_reducible exact Below.refl _ _) | (with_reducible assumption) | (with_reducible refine below_go ?_ (by with_reducible assumption)) | (with_reducible refine below_new ?_ _) | ((with_reducible refine below_put ?_ ?_ _); rotate_left; (dsimp only; omega)) | (with_reducible refine Below.drew ?_) | (with_reducible refine below_dn ?_ _))) hb2; have i0' : Has w2 (w.heap.size) 16 _ := Has.call (by repeat (first | (with_reducible assumption) | (with_reducible apply Has.set) | ((with_reducible apply Has.other); (case hne => (dsimp only; omega))) | (with_reducible apply Has.alloc) | (with_reducible apply Has.drew) | (with_reducible apply Has.drewN))) hb2; clear hB hb2; have hB := hB'; clear hB'; (try clear fi0); (try clear zi0); (try clear ci0); clear i0; have i0 := i0'; clear i0'; have ci0 := i0.1; have fi0 := i0.2.1; have zi0 := i0.2.2) | (go_at_call 89; (with_reducible refine (l2Pairs_any _ _).mono ?_); rintro e w2 ⟨rfl, hb2⟩; have hB' : Below w.heap.size w w2 := below_go (by repeat (first | (with_reducible exact Below.refl _ _) | (with_reducible assumption) | (with_reducible refine below_go ?_ (by with_reducible assumption)) | (with_reducible refine below_new ?_ _) | ((with_reducible refine below_put ?_ ?_ _); rotate_left; (dsimp only; omega)) | (with_reducible refine Below.drew ?_) | (with_reducible refine below_dn ?_ _))) hb2; have i0' : Has w2 (w.heap.size) 16 _ := Has.call (by repeat (first | (with_reducible assumption) | (with_reducible apply Has.set) | ((with_reducible apply Has.other); (case hne => (dsimp only; omega))) | (with_reducible apply Has.alloc) | (with_reducible apply Has.drew) | (with_reducible apply Has.drewN))) hb2; clear hB hb2; have hB := hB'; clear hB'; (try clear fi0); (try clear zi0); (try clear ci0); clear i0; have i0 := i0'; clear i0'; have ci0 := i0.1; have fi0 := i0.2.1; have zi0 := i0.2.2))
        clear s1 s2 ci0 fi0
        go_wp2
        go_roundw
        case rel => exact ⟨i + 1, by omega, by go_num, rfl, (by repeat (first | (with_reducible exact Below.refl _ _) | (with_reducible assumption) | (with_reducible refine below_go ?_ (by with_reducible assumption)) | (with_reducible refine below_new ?_ _) | ((with_reducible refine below_put ?_ ?_ _); rotate_left; (dsimp only; omega)) | (with_reducible refine Below.drew ?_) | (with_reducible refine below_dn ?_ _))), (by repeat (first | (with_reducible assumption) | (with_reducible apply Has.set) | ((with_reducible apply Has.other); (case hne => (dsimp only; omega))) | (with_reducible apply Has.alloc) | (with_reducible apply Has.drew) | (with_reducible apply Has.drewN)))⟩
        case measure => simp [intOf]; omega

end Go.Proofs.Ytegdnfmhhigjfaa
