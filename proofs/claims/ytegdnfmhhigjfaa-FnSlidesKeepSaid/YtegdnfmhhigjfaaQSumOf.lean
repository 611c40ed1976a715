/-
  Contracts: SumOf, the program's and the reference's.
-/
import Derived.Test.YtegdnfmhhigjfaaQSkD
import Derived.Test.YtegdnfmhhigjfaaQEqlB
import Derived.Test.YtegdnfmhhigjfaaQTiles
import Derived.Test.YtegdnfmhhigjfaaLine3
import Derived.IntWalk
import Derived.Test.YtegdnfmhhigjfaaSlide
namespace Go.Proofs.Ytegdnfmhhigjfaa
open Go.RowKit

set_option maxHeartbeats 4000000 in
set_option maxRecDepth 100000 in
theorem sumOf_any (b : Nat → Int) (w : World) : Calls Try.prog 19 #[.agg #[.int .i64 (b 0), .int .i64 (b 1), .int .i64 (b 2), .int .i64 (b 3), .int .i64 (b 4), .int .i64 (b 5), .int .i64 (b 6), .int .i64 (b 7), .int .i64 (b 8), .int .i64 (b 9), .int .i64 (b 10), .int .i64 (b 11), .int .i64 (b 12), .int .i64 (b 13), .int .i64 (b 14), .int .i64 (b 15)]] w fun e w' => e = .returned (.tuple #[.int .i64 (zr (bdB b) (smT b 16)), .bool (bdB b)]) ∧ Below w.heap.size w w' := by
  cases hb : bdB b
  · simp only [zr_false]
    go_enter Try.func19, Try.ntmps19
    go_upto_region 1 with (fail)
    generalize hW : w.alloc _ = w1
    have hB : Below w.heap.size w w1 := by (rw [← hW]; exact (by repeat (first | (with_reducible exact Below.refl _ _) | (with_reducible assumption) | (with_reducible refine below_go ?_ (by with_reducible assumption)) | (with_reducible refine below_new ?_ _) | ((with_reducible refine below_put ?_ ?_ _); rotate_left; (dsimp only; omega)) | (with_reducible refine Below.drew ?_) | (with_reducible refine below_dn ?_ _))))
    have hsz : Hid (w1.heap.size = w.heap.size + 1) := hide (by rw [← hW]; simp)
    have i0 : Has w1 (w.heap.size) 16 (fun o => .int .i64 (b o)) := by (rw [← hW]; repeat (first | (refine Has.new ?_ rfl; simp; done) | refine Has.alloc ?_ _))
    have ci0 := i0.1; have fi0 := i0.2.1; have zi0 := i0.2.2
    clear hW
    go_wp2_with (first | (go_at_call 27; (with_reducible refine (isBoard_any _ _).mono ?_); rintro e w2 ⟨rfl, hb2⟩; have hB' : Below w.heap.size w w2 := below_go (by repeat (first | (with_reducible exact Below.refl _ _) | (with_reducible assumption) | (with_reducible refine below_go ?_ (by with_reducible assumption)) | (with_reducible refine below_new ?_ _) | ((with_reducible refine below_put ?_ ?_ _); rotate_left; (dsimp only; omega)) | (with_reducible refine Below.drew ?_) | (with_reducible refine below_dn ?_ _))) hb2; have i0' : Has w2 (w.heap.size) 16 _ := Has.call (by repeat (first | (with_reducible assumption) | (with_reducible apply Has.set) | ((with_reducible apply Has.other); (case hne => (dsimp only; omega))) | (with_reducible apply Has.alloc) | (with_reducible apply Has.drew) | (with_reducible apply Has.drewN))) hb2; clear hB hb2; have hB := hB'; clear hB'; (try clear fi0); (try clear zi0); (try clear ci0); clear i0; have i0 := i0'; clear i0'; have ci0 := i0.1; have fi0 := i0.2.1; have zi0 := i0.2.2) | (refine load_Board rfl _ rfl _ _ rfl (by repeat (first | (with_reducible assumption) | (with_reducible apply Has.set) | ((with_reducible apply Has.other); (case hne => (dsimp only; omega))) | (with_reducible apply Has.alloc) | (with_reducible apply Has.drew) | (with_reducible apply Has.drewN))) (by omega) ?_))
    go_ret2
    exact ⟨rfl, (by repeat (first | (with_reducible exact Below.refl _ _) | (with_reducible assumption) | (with_reducible refine below_go ?_ (by with_reducible assumption)) | (with_reducible refine below_new ?_ _) | ((with_reducible refine below_put ?_ ?_ _); rotate_left; (dsimp only; omega)) | (with_reducible refine Below.drew ?_) | (with_reducible refine below_dn ?_ _)))⟩
  · have HB := hide (bdB_in hb)
    simp only [zr_true]
    go_enter Try.func19, Try.ntmps19
    go_upto_region 1 with (fail)
    generalize hW : w.alloc _ = w1
    have hB : Below w.heap.size w w1 := by (rw [← hW]; exact (by repeat (first | (with_reducible exact Below.refl _ _) | (with_reducible assumption) | (with_reducible refine below_go ?_ (by with_reducible assumption)) | (with_reducible refine below_new ?_ _) | ((with_reducible refine below_put ?_ ?_ _); rotate_left; (dsimp only; omega)) | (with_reducible refine Below.drew ?_) | (with_reducible refine below_dn ?_ _))))
    have hsz : Hid (w1.heap.size = w.heap.size + 1) := hide (by rw [← hW]; simp)
    have i0 : Has w1 (w.heap.size) 16 (fun o => .int .i64 (b o)) := by (rw [← hW]; repeat (first | (refine Has.new ?_ rfl; simp; done) | refine Has.alloc ?_ _))
    have ci0 := i0.1; have fi0 := i0.2.1; have zi0 := i0.2.2
    clear hW
    go_wp2_with (first | (go_at_call 27; (with_reducible refine (isBoard_any _ _).mono ?_); rintro e w2 ⟨rfl, hb2⟩; have hB' : Below w.heap.size w w2 := below_go (by repeat (first | (with_reducible exact Below.refl _ _) | (with_reducible assumption) | (with_reducible refine below_go ?_ (by with_reducible assumption)) | (with_reducible refine below_new ?_ _) | ((with_reducible refine below_put ?_ ?_ _); rotate_left; (dsimp only; omega)) | (with_reducible refine Below.drew ?_) | (with_reducible refine below_dn ?_ _))) hb2; have i0' : Has w2 (w.heap.size) 16 _ := Has.call (by repeat (first | (with_reducible assumption) | (with_reducible apply Has.set) | ((with_reducible apply Has.other); (case hne => (dsimp only; omega))) | (with_reducible apply Has.alloc) | (with_reducible apply Has.drew) | (with_reducible apply Has.drewN))) hb2; clear hB hb2; have hB := hB'; clear hB'; (try clear fi0); (try clear zi0); (try clear ci0); clear i0; have i0 := i0'; clear i0'; have ci0 := i0.1; have fi0 := i0.2.1; have zi0 := i0.2.2) | (go_at_call 76; (with_reducible refine (sum_any _ HB.out _).mono ?_); rintro e w2 ⟨rfl, hb2⟩; have hB' : Below w.heap.size w w2 := below_go (by repeat (first | (with_reducible exact Below.refl _ _) | (with_reducible assumption) | (with_reducible refine below_go ?_ (by with_reducible assumption)) | (with_reducible refine below_new ?_ _) | ((with_reducible refine below_put ?_ ?_ _); rotate_left; (dsimp only; omega)) | (with_reducible refine Below.drew ?_) | (with_reducible refine below_dn ?_ _))) hb2; have i0' : Has w2 (w.heap.size) 16 _ := Has.call (by repeat (first | (with_reducible assumption) | (with_reducible apply Has.set) | ((with_reducible apply Has.other); (case hne => (dsimp only; omega))) | (with_reducible apply Has.alloc) | (with_reducible apply Has.drew) | (with_reducible apply Has.drewN))) hb2; clear hB hb2; have hB := hB'; clear hB'; (try clear fi0); (try clear zi0); (try clear ci0); clear i0; have i0 := i0'; clear i0'; have ci0 := i0.1; have fi0 := i0.2.1; have zi0 := i0.2.2) | (refine load_Board rfl _ rfl _ _ rfl (by repeat (first | (with_reducible assumption) | (with_reducible apply Has.set) | ((with_reducible apply Has.other); (case hne => (dsimp only; omega))) | (with_reducible apply Has.alloc) | (with_reducible apply Has.drew) | (with_reducible apply Has.drewN))) (by omega) ?_))
    go_ret2
    exact ⟨rfl, (by repeat (first | (with_reducible exact Below.refl _ _) | (with_reducible assumption) | (with_reducible refine below_go ?_ (by with_reducible assumption)) | (with_reducible refine below_new ?_ _) | ((with_reducible refine below_put ?_ ?_ _); rotate_left; (dsimp only; omega)) | (with_reducible refine Below.drew ?_) | (with_reducible refine below_dn ?_ _)))⟩

set_option maxHeartbeats 4000000 in
set_option maxRecDepth 100000 in
theorem specSumOf_any (b : Nat → Int) (w : World) : Calls Try.prog 33 #[.agg #[.int .i64 (b 0), .int .i64 (b 1), .int .i64 (b 2), .int .i64 (b 3), .int .i64 (b 4), .int .i64 (b 5), .int .i64 (b 6), .int .i64 (b 7), .int .i64 (b 8), .int .i64 (b 9), .int .i64 (b 10), .int .i64 (b 11), .int .i64 (b 12), .int .i64 (b 13), .int .i64 (b 14), .int .i64 (b 15)]] w fun e w' => e = .returned (.tuple #[.int .i64 (zr (bdB b) (smT b 16)), .bool (bdB b)]) ∧ Below w.heap.size w w' := by
  cases hb : bdB b
  · simp only [zr_false]
    go_enter Try.func33, Try.ntmps33
    go_upto_region 1 with (fail)
    generalize hW : w.alloc _ = w1
    have hB : Below w.heap.size w w1 := by (rw [← hW]; exact (by repeat (first | (with_reducible exact Below.refl _ _) | (with_reducible assumption) | (with_reducible refine below_go ?_ (by with_reducible assumption)) | (with_reducible refine below_new ?_ _) | ((with_reducible refine below_put ?_ ?_ _); rotate_left; (dsimp only; omega)) | (with_reducible refine Below.drew ?_) | (with_reducible refine below_dn ?_ _))))
    have hsz : Hid (w1.heap.size = w.heap.size + 1) := hide (by rw [← hW]; simp)
    have i0 : Has w1 (w.heap.size) 16 (fun o => .int .i64 (b o)) := by (rw [← hW]; repeat (first | (refine Has.new ?_ rfl; simp; done) | refine Has.alloc ?_ _))
    have ci0 := i0.1; have fi0 := i0.2.1; have zi0 := i0.2.2
    clear hW
    go_wp2_with (first | (go_at_call 64; (with_reducible refine (l2Board_any _ _).mono ?_); rintro e w2 ⟨rfl, hb2⟩; have hB' : Below w.heap.size w w2 := below_go (by repeat (first | (with_reducible exact Below.refl _ _) | (with_reducible assumption) | (with_reducible refine below_go ?_ (by with_reducible assumption)) | (with_reducible refine below_new ?_ _) | ((with_reducible refine below_put ?_ ?_ _); rotate_left; (dsimp only; omega)) | (with_reducible refine Below.drew ?_) | (with_reducible refine below_dn ?_ _))) hb2; have i0' : Has w2 (w.heap.size) 16 _ := Has.call (by repeat (first | (with_reducible assumption) | (with_reducible apply Has.set) | ((with_reducible apply Has.other); (case hne => (dsimp only; omega))) | (with_reducible apply Has.alloc) | (with_reducible apply Has.drew) | (with_reducible apply Has.drewN))) hb2; clear hB hb2; have hB := hB'; clear hB'; (try clear fi0); (try clear zi0); (try clear ci0); clear i0; have i0 := i0'; clear i0'; have ci0 := i0.1; have fi0 := i0.2.1; have zi0 := i0.2.2) | (refine load_Board rfl _ rfl _ _ rfl (by repeat (first | (with_reducible assumption) | (with_reducible apply Has.set) | ((with_reducible apply Has.other); (case hne => (dsimp only; omega))) | (with_reducible apply Has.alloc) | (with_reducible apply Has.drew) | (with_reducible apply Has.drewN))) (by omega) ?_))
    go_ret2
    exact ⟨rfl, (by repeat (first | (with_reducible exact Below.refl _ _) | (with_reducible assumption) | (with_reducible refine below_go ?_ (by with_reducible assumption)) | (with_reducible refine below_new ?_ _) | ((with_reducible refine below_put ?_ ?_ _); rotate_left; (dsimp only; omega)) | (with_reducible refine Below.drew ?_) | (with_reducible refine below_dn ?_ _)))⟩
  · have HB := hide (bdB_in hb)
    simp only [zr_true]
    go_enter Try.func33, Try.ntmps33
    go_upto_region 1 with (fail)
    generalize hW : w.alloc _ = w1
    have hB : Below w.heap.size w w1 := by (rw [← hW]; exact (by repeat (first | (with_reducible exact Below.refl _ _) | (with_reducible assumption) | (with_reducible refine below_go ?_ (by with_reducible assumption)) | (with_reducible refine below_new ?_ _) | ((with_reducible refine below_put ?_ ?_ _); rotate_left; (dsimp only; omega)) | (with_reducible refine Below.drew ?_) | (with_reducible refine below_dn ?_ _))))
    have hsz : Hid (w1.heap.size = w.heap.size + 1) := hide (by rw [← hW]; simp)
    have i0 : Has w1 (w.heap.size) 16 (fun o => .int .i64 (b o)) := by (rw [← hW]; repeat (first | (refine Has.new ?_ rfl; simp; done) | refine Has.alloc ?_ _))
    have ci0 := i0.1; have fi0 := i0.2.1; have zi0 := i0.2.2
    clear hW
    go_wp2_with (first | (go_at_call 64; (with_reducible refine (l2Board_any _ _).mono ?_); rintro e w2 ⟨rfl, hb2⟩; have hB' : Below w.heap.size w w2 := below_go (by repeat (first | (with_reducible exact Below.refl _ _) | (with_reducible assumption) | (with_reducible refine below_go ?_ (by with_reducible assumption)) | (with_reducible refine below_new ?_ _) | ((with_reducible refine below_put ?_ ?_ _); rotate_left; (dsimp only; omega)) | (with_reducible refine Below.drew ?_) | (with_reducible refine below_dn ?_ _))) hb2; have i0' : Has w2 (w.heap.size) 16 _ := Has.call (by repeat (first | (with_reducible assumption) | (with_reducible apply Has.set) | ((with_reducible apply Has.other); (case hne => (dsimp only; omega))) | (with_reducible apply Has.alloc) | (with_reducible apply Has.drew) | (with_reducible apply Has.drewN))) hb2; clear hB hb2; have hB := hB'; clear hB'; (try clear fi0); (try clear zi0); (try clear ci0); clear i0; have i0 := i0'; clear i0'; have ci0 := i0.1; have fi0 := i0.2.1; have zi0 := i0.2.2) | (go_at_call 88; (with_reducible refine (l2Sum_any _ HB.out _).mono ?_); rintro e w2 ⟨rfl, hb2⟩; have hB' : Below w.heap.size w w2 := below_go (by repeat (first | (with_reducible exact Below.refl _ _) | (with_reducible assumption) | (with_reducible refine below_go ?_ (by with_reducible assumption)) | (with_reducible refine below_new ?_ _) | ((with_reducible refine below_put ?_ ?_ _); rotate_left; (dsimp only; omega)) | (with_reducible refine Below.drew ?_) | (with_reducible refine below_dn ?_ _))) hb2; have i0' : Has w2 (w.heap.size) 16 _ := Has.call (by repeat (first | (with_reducible assumption) | (with_reducible apply Has.set) | ((with_reducible apply Has.other); (case hne => (dsimp only; omega))) | (with_reducible apply Has.alloc) | (with_reducible apply Has.drew) | (with_reducible apply Has.drewN))) hb2; clear hB hb2; have hB := hB'; clear hB'; (try clear fi0); (try clear zi0); (try clear ci0); clear i0; have i0 := i0'; clear i0'; have ci0 := i0.1; have fi0 := i0.2.1; have zi0 := i0.2.2) | (refine load_Board rfl _ rfl _ _ rfl (by repeat (first | (with_reducible assumption) | (with_reducible apply Has.set) | ((with_reducible apply Has.other); (case hne => (dsimp only; omega))) | (with_reducible apply Has.alloc) | (with_reducible apply Has.drew) | (with_reducible apply Has.drewN))) (by omega) ?_))
    go_ret2
    exact ⟨rfl, (by repeat (first | (with_reducible exact Below.refl _ _) | (with_reducible assumption) | (with_reducible refine below_go ?_ (by with_reducible assumption)) | (with_reducible refine below_new ?_ _) | ((with_reducible refine below_put ?_ ?_ _); rotate_left; (dsimp only; omega)) | (with_reducible refine Below.drew ?_) | (with_reducible refine below_dn ?_ _)))⟩

end Go.Proofs.Ytegdnfmhhigjfaa

namespace Go.Proofs.Ytegdnfmhhigjfaa
open Go.RowKit

theorem Calls.quiet_of_eq {P : Program} {f : FuncId} {args : Array Value} {w : World} {n : Nat} {v : Value} (h : Calls P f args (w.drewN n) fun e w' => e = .returned v ∧ w.drewN n = w') : Calls P f args (w.drewN n) fun e w'' => e = .returned v ∧ ∃ m, w'' = w.drewN m :=
  h.mono fun _ _ ⟨he, hm⟩ => ⟨he, n, hm.symm⟩

theorem prT_ne {r : Nat → Int} {k : Nat} (h : r k ≠ r (k + 1)) : prT r (k + 1) = prT r k := by
  simp [prT, h]
theorem prT_out {r : Nat → Int} {k : Nat} (h : inB (r k) 1 16 = false) : prT r (k + 1) = prT r k := by
  have h' : ¬ (1 ≤ r k ∧ r k ≤ 16) := by simpa [inB] using h
  simp only [prT]
  rw [if_neg fun hh => h' hh.2]; omega
theorem prT_in {r : Nat → Int} {k : Nat} (e : r k = r (k + 1)) (h : inB (r k) 1 16 = true) : prT r (k + 1) = prT r k + 1 := by
  have h' : 1 ≤ r k ∧ r k ≤ 16 := by simpa [inB] using h
  simp only [prT]
  rw [if_pos ⟨e, h'⟩]

set_option maxHeartbeats 4000000 in
set_option maxRecDepth 100000 in
theorem l2Pairs_any (r : Nat → Int) (w : World) :
    Calls Try.prog 89 #[.agg #[.int .i64 (r 0), .int .i64 (r 1), .int .i64 (r 2), .int .i64 (r 3)]] w fun e w' => e = .returned (.int .i64 (prT r 3)) ∧ Below w.heap.size w w' := by
  go_enter Try.func89, Try.ntmps89
  go_wp2_with fail
  generalize hW : w.alloc _ = w1
  have hB : Below w.heap.size w w1 := by (rw [← hW]; exact (by repeat (first | (with_reducible exact Below.refl _ _) | (with_reducible assumption) | (with_reducible refine below_go ?_ (by with_reducible assumption)) | (with_reducible refine below_new ?_ _) | ((with_reducible refine below_put ?_ ?_ _); rotate_left; (dsimp only; omega)) | (with_reducible refine Below.drew ?_) | (with_reducible refine below_dn ?_ _))))
  have hsz : Hid (w1.heap.size = w.heap.size + 1) := hide (by rw [← hW]; simp)
  have i0 : Has w1 (w.heap.size) 4 (fun o => .int .i64 (r o)) := by (rw [← hW]; repeat (first | (refine Has.new ?_ rfl; simp; done) | refine Has.alloc ?_ _))
  have ci0 := i0.1; have fi0 := i0.2.1; have zi0 := i0.2.2
  clear hW
  clear ci0 fi0 zi0 hsz
  go_loopw [3, 4] (fun v3 v4 wr => ∃ k : Nat, k ≤ 3 ∧ v4 = .int .i64 ((k : Int) + 1) ∧ v3 = .int .i64 (prT r k) ∧ Below w.heap.size w wr ∧ Has wr w.heap.size 4 (fun o => .int .i64 (r o))) (fun _ i _ => 4 - (intOf i).toNat)
  case atStart => exact ⟨0, by omega, rfl, rfl, hB, i0⟩
  case round =>
    clear hB i0
    obtain ⟨k, hk, rfl, rfl, hB, i0⟩ := hrel
    by_cases h4 : k = 3
    · subst h4
      go_wp2
      go_ret
      exact ⟨rfl, hB⟩
    · have hlt : k < 3 := by omega
      obtain ⟨p0, p1⟩ := prT_le r k
      have a1 : (0 : Int) ≤ k := by omega
      have a2 : (k : Int) < 3 := by omega
      have s1 : IntKind.i64.wrap ((k : Int) + 1 - 1) = (k : Int) := by rw [IntWalk.i64_in _ (by omega)]; omega
      have s2 : ((k : Int) + 1).toNat = k + 1 := by omega
      have q1 : wr.cell? ⟨w.heap.size, k, none⟩ = some (.int .i64 (r k)) := i0.1 _ (by omega)
      have q2 : wr.cell? ⟨w.heap.size, k + 1, none⟩ = some (.int .i64 (r (k + 1))) := i0.1 _ (by omega)
      by_cases he : r k = r (k + 1)
      · have he' : (r (k + 1) == r k) = true := by simpa using he.symm
        have HE := hide he
        clear he
        cases hi : inB (r k) 1 16
        · have hi2 : inB (r (k + 1)) 1 16 = false := by rw [← HE.out]; exact hi
          have HI := hide hi
          clear hi
          go_wp2_with fail
          go_quiet ((go_at_call 105; exact Calls.quiet_of_eq (l1In_any _ _ _ _)))
          clear s1 s2
          go_wp2
          go_roundw
          case rel => exact ⟨k + 1, by omega, by go_num, by rw [prT_out HI.out], (by repeat (first | (with_reducible exact Below.refl _ _) | (with_reducible assumption) | (with_reducible refine below_go ?_ (by with_reducible assumption)) | (with_reducible refine below_new ?_ _) | ((with_reducible refine below_put ?_ ?_ _); rotate_left; (dsimp only; omega)) | (with_reducible refine Below.drew ?_) | (with_reducible refine below_dn ?_ _))), (by repeat (first | (with_reducible assumption) | (with_reducible apply Has.set) | ((with_reducible apply Has.other); (case hne => (dsimp only; omega))) | (with_reducible apply Has.alloc) | (with_reducible apply Has.drew) | (with_reducible apply Has.drewN)))⟩
          case measure => simp [intOf]; omega
        · have hi2 : inB (r (k + 1)) 1 16 = true := by rw [← HE.out]; exact hi
          have HI := hide hi
          clear hi
          go_wp2_with fail
          go_quiet ((go_at_call 105; exact Calls.quiet_of_eq (l1In_any _ _ _ _)))
          clear s1 s2
          go_wp2
          go_roundw
          case rel => exact ⟨k + 1, by omega, by go_num, by rw [prT_in HE.out HI.out], (by repeat (first | (with_reducible exact Below.refl _ _) | (with_reducible assumption) | (with_reducible refine below_go ?_ (by with_reducible assumption)) | (with_reducible refine below_new ?_ _) | ((with_reducible refine below_put ?_ ?_ _); rotate_left; (dsimp only; omega)) | (with_reducible refine Below.drew ?_) | (with_reducible refine below_dn ?_ _))), (by repeat (first | (with_reducible assumption) | (with_reducible apply Has.set) | ((with_reducible apply Has.other); (case hne => (dsimp only; omega))) | (with_reducible apply Has.alloc) | (with_reducible apply Has.drew) | (with_reducible apply Has.drewN)))⟩
          case measure => simp [intOf]; omega
      · have he' : (r (k + 1) == r k) = false := by simpa using fun h => he h.symm
        have HE := hide he
        clear he
        go_wp2_with fail
        go_quiet (fail)
        clear s1 s2
        go_wp2
        go_roundw
        case rel => exact ⟨k + 1, by omega, by go_num, by rw [prT_ne HE.out], (by repeat (first | (with_reducible exact Below.refl _ _) | (with_reducible assumption) | (with_reducible refine below_go ?_ (by with_reducible assumption)) | (with_reducible refine below_new ?_ _) | ((with_reducible refine below_put ?_ ?_ _); rotate_left; (dsimp only; omega)) | (with_reducible refine Below.drew ?_) | (with_reducible refine below_dn ?_ _))), (by repeat (first | (with_reducible assumption) | (with_reducible apply Has.set) | ((with_reducible apply Has.other); (case hne => (dsimp only; omega))) | (with_reducible apply Has.alloc) | (with_reducible apply Has.drew) | (with_reducible apply Has.drewN)))⟩
        case measure => simp [intOf]; omega

end Go.Proofs.Ytegdnfmhhigjfaa

namespace Go.Proofs.Ytegdnfmhhigjfaa
open Go.RowKit

theorem results_eqp {x y : Int} (h : x = y) : Ending.returned (.tuple #[.int .i64 x, .bool true]) = .returned (.tuple #[.int .i64 y, .bool true]) := by rw [h]
def prD (b : Nat → Int) (d : Nat) : Int := match d with | 0 => 0 | 1 => prL b 0 4 | _ => prL b 0 4 + prL b 1 4
theorem prD_succ (b : Nat → Int) {d : Nat} (hd : d < 2) : prD b (d + 1) = prD b d + prL b d 4 := by
  rcases (by omega : d = 0 ∨ d = 1) with rfl | rfl
  · simp [prD]
  · rfl
theorem prD_le (b : Nat → Int) {d : Nat} (hd : d ≤ 2) : 0 ≤ prD b d ∧ prD b d ≤ 24 := by
  have h0 := prL_le b 0 4; have h1 := prL_le b 1 4
  rcases (by omega : d = 0 ∨ d = 1 ∨ d = 2) with rfl | rfl | rfl <;> simp only [prD] <;> omega

set_option maxHeartbeats 8000000 in
set_option maxRecDepth 100000 in
theorem equalPairs_any (b : Nat → Int) (w : World) : Calls Try.prog 20 #[.agg #[.int .i64 (b 0), .int .i64 (b 1), .int .i64 (b 2), .int .i64 (b 3), .int .i64 (b 4), .int .i64 (b 5), .int .i64 (b 6), .int .i64 (b 7), .int .i64 (b 8), .int .i64 (b 9), .int .i64 (b 10), .int .i64 (b 11), .int .i64 (b 12), .int .i64 (b 13), .int .i64 (b 14), .int .i64 (b 15)]] w fun e w' => e = .returned (.tuple #[.int .i64 (zr (bdB b) (prS b 4)), .bool (bdB b)]) ∧ Below w.heap.size w w' := by
  cases hb : bdB b
  · simp only [zr_false]
    go_enter Try.func20, Try.ntmps20
    go_upto_region 1 with (fail)
    generalize hW : w.alloc _ = w1
    have hB : Below w.heap.size w w1 := by (rw [← hW]; exact (by repeat (first | (with_reducible exact Below.refl _ _) | (with_reducible assumption) | (with_reducible refine below_go ?_ (by with_reducible assumption)) | (with_reducible refine below_new ?_ _) | ((with_reducible refine below_put ?_ ?_ _); rotate_left; (dsimp only; omega)) | (with_reducible refine Below.drew ?_) | (with_reducible refine below_dn ?_ _))))
    have hsz : Hid (w1.heap.size = w.heap.size + 1) := hide (by rw [← hW]; simp)
    have i0 : Has w1 (w.heap.size) 16 (fun o => .int .i64 (b o)) := by (rw [← hW]; repeat (first | (refine Has.new ?_ rfl; simp; done) | refine Has.alloc ?_ _))
    have ci0 := i0.1; have fi0 := i0.2.1; have zi0 := i0.2.2
    clear hW
    go_wp2_with (first | (go_at_call 27; (with_reducible refine (isBoard_any _ _).mono ?_); rintro e w2 ⟨rfl, hb2⟩; have hB' : Below w.heap.size w w2 := below_go (by repeat (first | (with_reducible exact Below.refl _ _) | (with_reducible assumption) | (with_reducible refine below_go ?_ (by with_reducible assumption)) | (with_reducible refine below_new ?_ _) | ((with_reducible refine below_put ?_ ?_ _); rotate_left; (dsimp only; omega)) | (with_reducible refine Below.drew ?_) | (with_reducible refine below_dn ?_ _))) hb2; have i0' : Has w2 (w.heap.size) 16 _ := Has.call (by repeat (first | (with_reducible assumption) | (with_reducible apply Has.set) | ((with_reducible apply Has.other); (case hne => (dsimp only; omega))) | (with_reducible apply Has.alloc) | (with_reducible apply Has.drew) | (with_reducible apply Has.drewN))) hb2; clear hB hb2; have hB := hB'; clear hB'; (try clear fi0); (try clear zi0); (try clear ci0); clear i0; have i0 := i0'; clear i0'; have ci0 := i0.1; have fi0 := i0.2.1; have zi0 := i0.2.2) | (refine load_Board rfl _ rfl _ _ rfl (by repeat (first | (with_reducible assumption) | (with_reducible apply Has.set) | ((with_reducible apply Has.other); (case hne => (dsimp only; omega))) | (with_reducible apply Has.alloc) | (with_reducible apply Has.drew) | (with_reducible apply Has.drewN))) (by omega) ?_))
    go_ret2
    exact ⟨rfl, (by repeat (first | (with_reducible exact Below.refl _ _) | (with_reducible assumption) | (with_reducible refine below_go ?_ (by with_reducible assumption)) | (with_reducible refine below_new ?_ _) | ((with_reducible refine below_put ?_ ?_ _); rotate_left; (dsimp only; omega)) | (with_reducible refine Below.drew ?_) | (with_reducible refine below_dn ?_ _)))⟩
  · simp only [zr_true]
    go_enter Try.func20, Try.ntmps20
    go_upto_region 1 with (fail)
    generalize hW : w.alloc _ = w1
    have hB : Below w.heap.size w w1 := by (rw [← hW]; exact (by repeat (first | (with_reducible exact Below.refl _ _) | (with_reducible assumption) | (with_reducible refine below_go ?_ (by with_reducible assumption)) | (with_reducible refine below_new ?_ _) | ((with_reducible refine below_put ?_ ?_ _); rotate_left; (dsimp only; omega)) | (with_reducible refine Below.drew ?_) | (with_reducible refine below_dn ?_ _))))
    have hsz : Hid (w1.heap.size = w.heap.size + 1) := hide (by rw [← hW]; simp)
    have i0 : Has w1 (w.heap.size) 16 (fun o => .int .i64 (b o)) := by (rw [← hW]; repeat (first | (refine Has.new ?_ rfl; simp; done) | refine Has.alloc ?_ _))
    have ci0 := i0.1; have fi0 := i0.2.1; have zi0 := i0.2.2
    clear hW
    go_upto_region 5 with (first | (go_at_call 27; (with_reducible refine (isBoard_any _ _).mono ?_); rintro e w2 ⟨rfl, hb2⟩; have hB' : Below w.heap.size w w2 := below_go (by repeat (first | (with_reducible exact Below.refl _ _) | (with_reducible assumption) | (with_reducible refine below_go ?_ (by with_reducible assumption)) | (with_reducible refine below_new ?_ _) | ((with_reducible refine below_put ?_ ?_ _); rotate_left; (dsimp only; omega)) | (with_reducible refine Below.drew ?_) | (with_reducible refine below_dn ?_ _))) hb2; have i0' : Has w2 (w.heap.size) 16 _ := Has.call (by repeat (first | (with_reducible assumption) | (with_reducible apply Has.set) | ((with_reducible apply Has.other); (case hne => (dsimp only; omega))) | (with_reducible apply Has.alloc) | (with_reducible apply Has.drew) | (with_reducible apply Has.drewN))) hb2; clear hB hb2; have hB := hB'; clear hB'; (try clear fi0); (try clear zi0); (try clear ci0); clear i0; have i0 := i0'; clear i0'; have ci0 := i0.1; have fi0 := i0.2.1; have zi0 := i0.2.2) | (refine load_Board rfl _ rfl _ _ rfl (by repeat (first | (with_reducible assumption) | (with_reducible apply Has.set) | ((with_reducible apply Has.other); (case hne => (dsimp only; omega))) | (with_reducible apply Has.alloc) | (with_reducible apply Has.drew) | (with_reducible apply Has.drewN))) (by omega) ?_))
    clear ci0 fi0 zi0 hsz
    go_loopw [4, 12] (fun v4 v12 wr => ∃ d : Nat, d ≤ 2 ∧ v12 = .int .i64 d ∧ v4 = .int .i64 (prD b d) ∧ Below w.heap.size w wr ∧ Has wr w.heap.size 16 (fun o => .int .i64 (b o))) (fun _ i _ => 2 - (intOf i).toNat)
    case atStart => exact ⟨0, by omega, rfl, rfl, hB, i0⟩
    case round =>
      clear hB i0
      obtain ⟨d, hd, rfl, rfl, hB, i0⟩ := hrel
      by_cases h4 : d = 2
      · subst h4
        go_wp2
        go_ret2
        exact ⟨results_eqp (prS_eq b 4).symm, hB⟩
      · have hlt : d < 2 := by omega
        have hd4 : d < 4 := by omega
        have hlti : (d : Int) < 2 := by omega
        have hdr : decide ((d : Int) < 2) = true := decide_eq_true hlti
        obtain ⟨e0, e1⟩ := prD_le b hd
        go_wp2_with fail
        go_loopw [4, 15] (fun v4 v15 wr => ∃ i : Nat, i ≤ 4 ∧ v15 = .int .i64 i ∧ v4 = .int .i64 (prD b d + prL b d i) ∧ Below w.heap.size w wr ∧ Has wr w.heap.size 16 (fun o => .int .i64 (b o))) (fun _ i _ => 4 - (intOf i).toNat)
        case atStart => exact ⟨0, by omega, rfl, by simp [prL], hB, i0⟩
        case round =>
          clear hB i0
          obtain ⟨i, hi, rfl, rfl, hB, i0⟩ := hrel
          by_cases h4 : i = 4
          · subst h4
            go_wp2
            go_roundw
            case rel => exact ⟨d + 1, by omega, by go_num, by rw [prD_succ b hlt], hB, i0⟩
            case measure => simp [intOf]; omega
          · have hlt4 : i < 4 := by omega
            have hlt4i : (i : Int) < 4 := by omega
            have hdr4 : decide ((i : Int) < 4) = true := decide_eq_true hlt4i
            obtain ⟨f0, f1⟩ := prL_le b d i
            have ci0 := i0.1; have fi0 := i0.2.1; have zi0 := i0.2.2
            go_upto_region 11 with (first | (go_at_call 77; (with_reducible refine (line_any _ _ _ hd4 hlt4 _).mono ?_); rintro e w2 ⟨rfl, hb2⟩; have hB' : Below w.heap.size w w2 := below_go (by repeat (first | (with_reducible exact Below.refl _ _) | (with_reducible assumption) | (with_reducible refine below_go ?_ (by with_reducible assumption)) | (with_reducible refine below_new ?_ _) | ((with_reducible refine below_put ?_ ?_ _); rotate_left; (dsimp only; omega)) | (with_reducible refine Below.drew ?_) | (with_reducible refine below_dn ?_ _))) hb2; have i0' : Has w2 (w.heap.size) 16 _ := Has.call (by repeat (first | (with_reducible assumption) | (with_reducible apply Has.set) | ((with_reducible apply Has.other); (case hne => (dsimp only; omega))) | (with_reducible apply Has.alloc) | (with_reducible apply Has.drew) | (with_reducible apply Has.drewN))) hb2; clear hB hb2; have hB := hB'; clear hB'; (try clear fi0); (try clear zi0); (try clear ci0); clear i0; have i0 := i0'; clear i0'; have ci0 := i0.1; have fi0 := i0.2.1; have zi0 := i0.2.2) | (refine load_Board rfl _ rfl _ _ rfl (by repeat (first | (with_reducible assumption) | (with_reducible apply Has.set) | ((with_reducible apply Has.other); (case hne => (dsimp only; omega))) | (with_reducible apply Has.alloc) | (with_reducible apply Has.drew) | (with_reducible apply Has.drewN))) (by omega) ?_))
            have hz3 : w.heap.size < w2.heap.size := zi0
            generalize hW : (World.alloc w2 _) = w1
            have hB' : Below w.heap.size w w1 := by (rw [← hW]; exact (by repeat (first | (with_reducible exact Below.refl _ _) | (with_reducible assumption) | (with_reducible refine below_go ?_ (by with_reducible assumption)) | (with_reducible refine below_new ?_ _) | ((with_reducible refine below_put ?_ ?_ _); rotate_left; (dsimp only; omega)) | (with_reducible refine Below.drew ?_) | (with_reducible refine below_dn ?_ _))))
            have i0' := Has.at hW (B := w.heap.size) (n := 16) (by repeat (first | (with_reducible assumption) | (with_reducible apply Has.set) | ((with_reducible apply Has.other); (case hne => (dsimp only; omega))) | (with_reducible apply Has.alloc) | (with_reducible apply Has.drew) | (with_reducible apply Has.drewN)))
            have k0 := Has.at hW (n := 4) (Has.new' rfl)
            try simp only [World.size_alloc] at k0
            clear hW; clear hB; have hB := hB'; clear hB'; (try clear fi0); (try clear zi0); (try clear ci0); clear i0; have i0 := i0'; clear i0'; have ci0 := i0.1; have fi0 := i0.2.1; have zi0 := i0.2.2; have ck0 := k0.1; have fk0 := k0.2.1; have zk0 := k0.2.2
            generalize hS : w2.heap.size = B4 at *
            clear hS
            have k0 := k0.congr (d := fun o => .int .i64 (lineOf b d i o)) (fun o ho => four_row (lineOf b d i) o ho)
            clear ci0 fi0 zi0 ck0 fk0 zk0
            go_wp2_with fail
            go_loopw [4, 22] (fun v4 v22 wr => ∃ k : Nat, k ≤ 3 ∧ v22 = .int .i64 k ∧ v4 = .int .i64 (prD b d + prL b d i + prT (lineOf b d i) k) ∧ Below w.heap.size w wr ∧ Has wr w.heap.size 16 (fun o => .int .i64 (b o)) ∧ Has wr B4 4 (fun o => .int .i64 (lineOf b d i o))) (fun _ i _ => 3 - (intOf i).toNat)
            case atStart => exact ⟨0, by omega, rfl, by simp [prT], hB, i0, k0⟩
            case round =>
              clear hB i0 k0
              obtain ⟨k, hk, rfl, rfl, hB, i0, k0⟩ := hrel
              by_cases h4 : k = 3
              · subst h4
                go_wp2
                go_roundw
                case rel => exact ⟨i + 1, by omega, by go_num, by rw [prL, Int.add_assoc], hB, i0⟩
                case measure => simp [intOf]; omega
              · have hlt3 : k < 3 := by omega
                obtain ⟨p0, p1⟩ := prT_le (lineOf b d i) k
                have a1 : (0 : Int) ≤ k := by omega
                have a2 : (k : Int) < 3 := by omega
                have s1 : IntKind.i64.wrap ((k : Int) + 1) = (k : Int) + 1 := IntWalk.i64_in _ (by omega)
                have s2 : ((k : Int) + 1).toNat = k + 1 := by omega
                have q1 : wr.cell? ⟨B4, k, none⟩ = some (.int .i64 (lineOf b d i k)) := k0.1 _ (by omega)
                have q2 : wr.cell? ⟨B4, k + 1, none⟩ = some (.int .i64 (lineOf b d i (k + 1))) := k0.1 _ (by omega)
                by_cases he : lineOf b d i k = lineOf b d i (k + 1)
                · have he' : (lineOf b d i k == lineOf b d i (k + 1)) = true := by simpa using he
                  have HE := hide he
                  clear he
                  cases hi : inB (lineOf b d i k) 1 16
                  · have HI := hide hi
                    go_wp2_with fail
                    go_quiet ((go_at_call 78; exact Calls.quiet_of_eq (in_any _ _ _ _)))
                    clear s1 s2
                    go_wp2
                    go_roundw
                    case rel => exact ⟨k + 1, by omega, by go_num, by rw [prT_out HI.out], (by repeat (first | (with_reducible exact Below.refl _ _) | (with_reducible assumption) | (with_reducible refine below_go ?_ (by with_reducible assumption)) | (with_reducible refine below_new ?_ _) | ((with_reducible refine below_put ?_ ?_ _); rotate_left; (dsimp only; omega)) | (with_reducible refine Below.drew ?_) | (with_reducible refine below_dn ?_ _))), (by repeat (first | (with_reducible assumption) | (with_reducible apply Has.set) | ((with_reducible apply Has.other); (case hne => (dsimp only; omega))) | (with_reducible apply Has.alloc) | (with_reducible apply Has.drew) | (with_reducible apply Has.drewN))), (by repeat (first | (with_reducible assumption) | (with_reducible apply Has.set) | ((with_reducible apply Has.other); (case hne => (dsimp only; omega))) | (with_reducible apply Has.alloc) | (with_reducible apply Has.drew) | (with_reducible apply Has.drewN)))⟩
                    case measure => simp [intOf]; omega
                  · have HI := hide hi
                    go_wp2_with fail
                    go_quiet ((go_at_call 78; exact Calls.quiet_of_eq (in_any _ _ _ _)))
                    clear s1 s2
                    go_wp2
                    go_roundw
                    case rel => exact ⟨k + 1, by omega, by go_num, by rw [prT_in HE.out HI.out, Int.add_assoc _ _ 1], (by repeat (first | (with_reducible exact Below.refl _ _) | (with_reducible assumption) | (with_reducible refine below_go ?_ (by with_reducible assumption)) | (with_reducible refine below_new ?_ _) | ((with_reducible refine below_put ?_ ?_ _); rotate_left; (dsimp only; omega)) | (with_reducible refine Below.drew ?_) | (with_reducible refine below_dn ?_ _))), (by repeat (first | (with_reducible assumption) | (with_reducible apply Has.set) | ((with_reducible apply Has.other); (case hne => (dsimp only; omega))) | (with_reducible apply Has.alloc) | (with_reducible apply Has.drew) | (with_reducible apply Has.drewN))), (by repeat (first | (with_reducible assumption) | (with_reducible apply Has.set) | ((with_reducible apply Has.other); (case hne => (dsimp only; omega))) | (with_reducible apply Has.alloc) | (with_reducible apply Has.drew) | (with_reducible apply Has.drewN)))⟩
                    case measure => simp [intOf]; omega
                · have he' : (lineOf b d i k == lineOf b d i (k + 1)) = false := by simpa using he
                  have HE := hide he
                  clear he
                  go_wp2_with fail
                  go_quiet (fail)
                  clear s1 s2
                  go_wp2
                  go_roundw
                  case rel => exact ⟨k + 1, by omega, by go_num, by rw [prT_ne HE.out], (by repeat (first | (with_reducible exact Below.refl _ _) | (with_reducible assumption) | (with_reducible refine below_go ?_ (by with_reducible assumption)) | (with_reducible refine below_new ?_ _) | ((with_reducible refine below_put ?_ ?_ _); rotate_left; (dsimp only; omega)) | (with_reducible refine Below.drew ?_) | (with_reducible refine below_dn ?_ _))), (by repeat (first | (with_reducible assumption) | (with_reducible apply Has.set) | ((with_reducible apply Has.other); (case hne => (dsimp only; omega))) | (with_reducible apply Has.alloc) | (with_reducible apply Has.drew) | (with_reducible apply Has.drewN))), (by repeat (first | (with_reducible assumption) | (with_reducible apply Has.set) | ((with_reducible apply Has.other); (case hne => (dsimp only; omega))) | (with_reducible apply Has.alloc) | (with_reducible apply Has.drew) | (with_reducible apply Has.drewN)))⟩
                  case measure => simp [intOf]; omega

end Go.Proofs.Ytegdnfmhhigjfaa

namespace Go.Proofs.Ytegdnfmhhigjfaa
open Go.RowKit

/-- The cells of places, as a flat list. -/
def plF (l : List Nat) : List Nat := l.flatMap fun p => [p / 4, p % 4]
theorem plF_snoc (l : List Nat) (p : Nat) : plF (l ++ [p]) = plF l ++ [p / 4, p % 4] := by simp [plF]
theorem ints_two (l : List Nat) (x y : Nat) : ints (l ++ [x, y]) = ints l ++ [.int .i64 (x : Int), .int .i64 (y : Int)] := by simp [ints]
theorem plF_len (l : List Nat) : (plF l).length = l.length * 2 := by
  induction l with
  | nil => rfl
  | cons p l ih => simp only [plF, List.flatMap_cons, List.length_append, List.length_cons, List.length_nil] at ih ⊢; omega
theorem cells_sl {w : World} {base e : Nat} {v : Value} {l : List Nat} (h : w.ownsRow base e 2 v l.length (ints (plF l))) : ∃ A cap, v = .slice A l.length cap ∧ Sl w base A (l.length * 2) (fI (plF l)) := by
  obtain ⟨A, cap, rfl, _, hS⟩ := own_sl h
  exact ⟨A, cap, rfl, hS.congr fun o ho => by
    have : o < (plF l).length := by rw [plF_len]; exact ho
    simp [ints, fI, this]⟩

end Go.Proofs.Ytegdnfmhhigjfaa

namespace Go.Proofs.Ytegdnfmhhigjfaa
open Go.RowKit

theorem zeroCells_A2 (n : Nat) : (Builtin.zeroCells #[Value.int .i64 0, .int .i64 0] n).toList = List.replicate (n * 2) (Value.int .i64 0) := by
  simp only [Builtin.zeroCells]
  apply List.ext_getElem
  · simp
  · intro i h1 h2
    simp only [List.getElem_replicate]
    rcases (by omega : i % 2 = 0 ∨ i % 2 = 1) with e | e <;> simp [e]

/-- clear of a slice of cells out of a block that is known. -/
theorem clear_A2 {ops : Array Oper} {rest : List Oper} {op : Oper} {a : Act} {w : World} {Q : Exit → Act → World → Prop} (hgd : op.guard = none) (x : Operand)
    (ho : op.op = .call { callee := .builtin .clear, args := #[x], argTypes := #[49] })
    (b o m cp : Nat) (hx : a.eval x = .slice (some ⟨b, o, none⟩) m cp) {n : Nat} {c : Nat → Value} (hH : Has w b n c) (hm : 0 < m) (hle : o + m * 2 ≤ n)
    (h : ∀ w2, Only b w w2 → Has w2 b n (fun j => if o ≤ j ∧ j < o + m * 2 then .int .i64 0 else c j) → wpList Try.prog ops Q rest (a.put op.dst (.tuple #[])) w2) : wpList Try.prog ops Q (op :: rest) a w := by
  refine wpList_plain hgd fun K hK => ?_
  have hst := run_storeCells_cells (P := Try.prog) b o (List.replicate (m * 2) (Value.int .i64 0)) 0 w (fun j hj => by simp at hj; rw [hH.1 _ (by omega)]; rfl) (fun j _ => hH.2.1 _) (fun u hu => by obtain ⟨_, rfl⟩ := List.mem_replicate.1 hu; rfl)
  have hz : ∀ w, (zeroValue 53).run Try.prog w = .ok (.agg #[.int .i64 0, .int .i64 0]) w := fun w => by kernel_rfl
  have hr : (Builtin.clear_ #[49] op.type #[.slice (some ⟨b, o, none⟩) m cp]).run Try.prog w = .ok (.tuple #[]) (w.setCells b o (List.replicate (m * 2) (Value.int .i64 0))) := by
    obtain ⟨k, rfl⟩ : ∃ k, m = k + 1 := ⟨m - 1, by omega⟩
    simp only [Nat.add_zero] at hst
    simp [Builtin.clear_, run_underlying Try.underlying49, hz, Value.cells, zeroCells_A2, hst]
  unfold Oper.wp execOp
  simp only [ho, resolve, invoke, builtin, Sem.run_bind, Sem.run_pure, Result.andThen_ok, List.map_toArray, List.map_cons, List.map_nil, hx, hr]
  refine hK _ _ (h _ (only_setCells _ _ _ _) ?_)
  refine (hH.sets (List.replicate (m * 2) (Value.int .i64 0)) (by simpa using hle)).congr fun j _ => ?_
  simp only [List.length_replicate]
  by_cases hj : o ≤ j ∧ j < o + m * 2
  · rw [if_pos hj, if_pos hj]
    have : j - o < m * 2 := by omega
    simp [this]
  · rw [if_neg hj, if_neg hj]

def DfP (b D : Nat → Int) (i j : Nat) : Prop := i = (emL b j).length ∧ (∀ o, o < i → D (o * 2) = (((emL b j).getD o 0 / 4 : Nat) : Int) ∧ D (o * 2 + 1) = (((emL b j).getD o 0 % 4 : Nat) : Int)) ∧ ∀ o, j ≤ o → D (o * 2) = ((o / 4 : Nat) : Int) ∧ D (o * 2 + 1) = ((o % 4 : Nat) : Int)
theorem emL_all {b : Nat → Int} : ∀ {k : Nat}, (∀ j, j < k → b j = 0) → emL b k = List.range k
  | 0, _ => rfl
  | k + 1, h => by rw [emL_succ, if_pos (h k (by omega)), emL_all fun j hj => h j (by omega), List.range_succ]
theorem cellC_even (o : Nat) : cellC (o * 2) = ((o / 4 : Nat) : Int) := by unfold cellC; rw [if_pos (by omega)]; congr 1; omega
theorem cellC_odd (o : Nat) : cellC (o * 2 + 1) = ((o % 4 : Nat) : Int) := by unfold cellC; rw [if_neg (by omega)]; congr 1; omega
theorem DfP.start {b : Nat → Int} {k : Nat} (h : ∀ j, j < k → b j = 0) (hz : b k ≠ 0) : DfP b cellC k (k + 1) := by
  have e : emL b (k + 1) = List.range k := by rw [emL_succ, if_neg hz, emL_all h]
  refine ⟨by rw [e]; simp, fun o ho => ?_, fun o _ => ⟨cellC_even o, cellC_odd o⟩⟩
  rw [e]
  simp [ho, cellC_even, cellC_odd]
theorem DfP.drop {b D : Nat → Int} {i j : Nat} (h : DfP b D i j) (hz : b j ≠ 0) : DfP b D i (j + 1) := by
  have e : emL b (j + 1) = emL b j := by rw [emL_succ, if_neg hz]
  exact ⟨by rw [e]; exact h.1, by rw [e]; exact h.2.1, fun o ho => h.2.2 o (by omega)⟩
theorem DfP.keep {b D : Nat → Int} {i j : Nat} (h : DfP b D i j) (hz : b j = 0) : DfP b (fun q => if q = i * 2 then D (j * 2) else if q = i * 2 + 1 then D (j * 2 + 1) else D q) (i + 1) (j + 1) := by
  have e : emL b (j + 1) = emL b j ++ [j] := by rw [emL_succ, if_pos hz]
  have hij : i ≤ j := by rw [h.1]; exact emL_len b j
  have hj := h.2.2 j (Nat.le_refl _)
  refine ⟨by rw [e, List.length_append, ← h.1]; rfl, fun o ho => ?_, fun o ho => ?_⟩
  · rw [e]
    by_cases ho2 : o = i
    · subst ho2
      simp [h.1] at hj ⊢
      exact hj
    · have h3 : o < i := by omega
      have h4 : o < (emL b j).length := by rw [← h.1]; exact h3
      have h5 := h.2.1 o h3
      simp only [show ¬ o * 2 = i * 2 by omega, show ¬ o * 2 = i * 2 + 1 by omega, show ¬ o * 2 + 1 = i * 2 by omega, show ¬ o * 2 + 1 = i * 2 + 1 by omega, if_false]
      simp only [List.getD, List.getElem?_append_left h4] at h5 ⊢
      exact h5
  · simp only [show ¬ o * 2 = i * 2 by omega, show ¬ o * 2 = i * 2 + 1 by omega, show ¬ o * 2 + 1 = i * 2 by omega, show ¬ o * 2 + 1 = i * 2 + 1 by omega, if_false]
    exact h.2.2 o (by omega)

set_option maxHeartbeats 2000000 in
theorem del_any (b : Nat → Int) (B0 p : Nat) (hp : p < 16) (x y : Int) (hx0 : 0 ≤ x) (hx3 : x < 4) (hy0 : 0 ≤ y) (hy3 : y < 4) (hxy : Hid (x.toNat * 4 + y.toNat = p)) (w : World) (hH : Has w B0 16 (fun o => .int .i64 (b o))) :
    Calls Try.prog 127 #[.agg #[.int .i64 x, .int .i64 y], .pointer (some ⟨B0, 0, none⟩)] w fun e w' => e = .returned (.bool (b p != 0)) ∧ Below w.heap.size w w' := by
  have i9 := hH
  have hB : Below w.heap.size w w := Below.refl _ _
  have zi9 := i9.2.2
  clear hH
  go_enter Try.func127, Try.ntmps127
  go_wp2_with (first | (go_at_call 98; (with_reducible refine (at_xy _ _ _ _ hx0 hx3 hy0 hy3 hxy _).mono ?_); rintro e w2 ⟨rfl, hb2⟩; have hB' : Below w.heap.size w w2 := below_go (by repeat (first | (with_reducible exact Below.refl _ _) | (with_reducible assumption) | (with_reducible refine below_go ?_ (by with_reducible assumption)) | (with_reducible refine below_new ?_ _) | ((with_reducible refine below_put ?_ ?_ _); rotate_left; (dsimp only; omega)) | (with_reducible refine Below.drew ?_) | (with_reducible refine below_dn ?_ _))) hb2; have i9' : Has w2 (B0) 16 _ := Has.call (by repeat (first | (with_reducible assumption) | (with_reducible apply Has.set) | ((with_reducible apply Has.other); (case hne => (dsimp only; omega))) | (with_reducible apply Has.alloc) | (with_reducible apply Has.drew) | (with_reducible apply Has.drewN))) hb2; clear hB hb2; have hB := hB'; clear hB'; (try clear fi9); (try clear zi9); (try clear ci9); clear i9; have i9 := i9'; clear i9'; have ci9 := i9.1; have fi9 := i9.2.1; have zi9 := i9.2.2) | (refine load_int rfl _ rfl _ _ rfl (by repeat (first | (with_reducible assumption) | (with_reducible apply Has.set) | ((with_reducible apply Has.other); (case hne => (dsimp only; omega))) | (with_reducible apply Has.alloc) | (with_reducible apply Has.drew) | (with_reducible apply Has.drewN))) (by omega) ?_))
  go_ret
  exact ⟨rfl, (by repeat (first | (with_reducible exact Below.refl _ _) | (with_reducible assumption) | (with_reducible refine below_go ?_ (by with_reducible assumption)) | (with_reducible refine below_new ?_ _) | ((with_reducible refine below_put ?_ ?_ _); rotate_left; (dsimp only; omega)) | (with_reducible refine Below.drew ?_) | (with_reducible refine below_dn ?_ _)))⟩

set_option maxHeartbeats 4000000 in
theorem indexDel_any (b : Nat → Int) (B0 g n cap : Nat) (hn : n = 16) (w : World) (hH : Has w B0 16 (fun o => .int .i64 (b o))) (hC : Has w g 32 (fun p => .int .i64 (cellC p))) :
    Calls Try.prog 136 #[.slice (some ⟨g, 0, none⟩) n cap, .func (.func 127) #[] #[.pointer (some ⟨B0, 0, none⟩)]] w fun e w' => ∃ i, e = .returned (.int .i64 i) ∧ ((i = -1 ∧ ∀ j, j < 16 → b j = 0) ∨ ∃ k : Nat, k < 16 ∧ i = k ∧ b k ≠ 0 ∧ ∀ j, j < k → b j = 0) ∧ Below w.heap.size w w' := by
  subst hn
  have H1 := hide hH
  have H2 := hide hC
  clear hH hC
  have hB : Below w.heap.size w w := Below.refl _ _
  go_enter Try.func136, Try.ntmps136
  go_wp2
  go_loopw [8] (fun v wr => ∃ k : Nat, k ≤ 16 ∧ v = .int .i64 k ∧ Hid (∀ j, j < k → b j = 0) ∧ Below w.heap.size w wr) (fun i _ => 16 - (intOf i).toNat)
  case atStart => exact ⟨0, Nat.zero_le _, rfl, hide (fun j hj => absurd hj (Nat.not_lt_zero _)), hB⟩
  case round =>
    clear hB
    obtain ⟨k, hk, rfl, hall, hB⟩ := hrel
    by_cases hlt : k < 16
    · have i9 := H1.out.call hB
      have iC := H2.out.call hB
      have hB0 := H1.out.2.2
      obtain ⟨x, y, hx0, hx3, hy0, hy3, _, hxy, q1, q2⟩ := cell_xy iC hlt
      clear iC
      by_cases hz : b k = 0
      · have hz' : (b k != 0) = false := by simpa using hz
        have HZ := hide hz
        clear hz
        go_wp2_with ((go_at_call 127); (refine (del_any b B0 k hlt x y hx0 hx3 hy0 hy3 hxy _ i9).mono ?_); rintro e w2 ⟨rfl, hb2⟩)
        go_roundw
        case rel => exact ⟨k + 1, by omega, by go_num, hide (all_succ hall.out HZ.out), below_go hB hb2⟩
        case measure => simp [intOf]; omega
      · have hz' : (b k != 0) = true := by simpa using hz
        have HZ := hide hz
        clear hz
        go_wp2_with ((go_at_call 127); (refine (del_any b B0 k hlt x y hx0 hx3 hy0 hy3 hxy _ i9).mono ?_); rintro e w2 ⟨rfl, hb2⟩)
        go_ret
        exact ⟨_, rfl, .inr ⟨k, hlt, rfl, HZ.out, hall.out⟩, below_go hB hb2⟩
    · obtain rfl : k = 16 := by omega
      go_wp2
      go_ret
      exact ⟨_, rfl, .inl ⟨rfl, hall.out⟩, hB⟩

end Go.Proofs.Ytegdnfmhhigjfaa

namespace Go.Proofs.Ytegdnfmhhigjfaa
open Go.RowKit

theorem plF_even : ∀ (l : List Nat) (k : Nat), k < l.length → (plF l).getD (k * 2) 0 = l.getD k 0 / 4
  | p :: l, 0, _ => rfl
  | p :: l, k + 1, h => by
    have ih := plF_even l k (by simpa using h)
    rw [show (k + 1) * 2 = k * 2 + 1 + 1 by omega]
    simpa [plF] using ih
theorem plF_odd : ∀ (l : List Nat) (k : Nat), k < l.length → (plF l).getD (k * 2 + 1) 0 = l.getD k 0 % 4
  | p :: l, 0, _ => rfl
  | p :: l, k + 1, h => by
    have ih := plF_odd l k (by simpa using h)
    rw [show (k + 1) * 2 + 1 = k * 2 + 1 + 1 + 1 by omega]
    simpa [plF] using ih
theorem DfP.cells {b D : Nat → Int} {i : Nat} (h : DfP b D i 16) (o : Nat) (ho : o < i * 2) : Value.int .i64 (D o) = fI (plF (emL b 16)) o := by
  unfold fI
  have hl := h.1
  rcases (by omega : o = o / 2 * 2 ∨ o = o / 2 * 2 + 1) with e | e
  · have h2 := (h.2.1 (o / 2) (by omega)).1
    rw [e, plF_even _ _ (by omega), h2]
  · have h2 := (h.2.1 (o / 2) (by omega)).2
    rw [e, plF_odd _ _ (by omega), h2]
theorem DfP.all {b : Nat → Int} (h : ∀ j, j < 16 → b j = 0) : DfP b cellC 16 16 := by
  have e : emL b 16 = List.range 16 := emL_all h
  refine ⟨by rw [e]; simp, fun o ho => ?_, fun o _ => ⟨cellC_even o, cellC_odd o⟩⟩
  rw [e]
  simp [ho, cellC_even, cellC_odd]
theorem cellD_xy {wr : World} {g k : Nat} {D : Nat → Int} (hC : Has wr g 32 (fun p => .int .i64 (D p))) (hk : k < 16) (h : D (k * 2) = ((k / 4 : Nat) : Int) ∧ D (k * 2 + 1) = ((k % 4 : Nat) : Int)) :
    ∃ x y : Int, 0 ≤ x ∧ x < 4 ∧ 0 ≤ y ∧ y < 4 ∧ Hid (D (k * 2) = x ∧ D (k * 2 + 1) = y) ∧ Hid (x.toNat * 4 + y.toNat = k) ∧ wr.cell? ⟨g, k * 2, none⟩ = some (.int .i64 x) ∧ wr.cell? ⟨g, k * 2 + 1, none⟩ = some (.int .i64 y) := by
  refine ⟨((k / 4 : Nat) : Int), ((k % 4 : Nat) : Int), by omega, by omega, by omega, by omega, hide h, hide (by omega), ?_, ?_⟩
  · exact (hC.1 _ (by omega)).trans (by simp only [h.1])
  · exact (hC.1 _ (by omega)).trans (by simp only [h.2])
theorem has_two' {w : World} {T : TypeId} {x y : Value} : Has (w.alloc (.cells #[x, y] T)) w.heap.size 2 (fun o => if o = 0 then x else y) :=
  (Has.new' (n := 2) rfl).congr fun o ho => by rcases (by omega : o = 0 ∨ o = 1) with rfl | rfl <;> rfl

set_option maxHeartbeats 8000000 in
set_option maxRecDepth 100000 in
theorem deleteDel_any (b : Nat → Int) (B0 g β cap : Nat) (hcap : 16 ≤ cap) (w : World) (hβ : β ≤ w.heap.size) (hgβ : β ≤ g) (hne : B0 ≠ g) (hH : Has w B0 16 (fun o => .int .i64 (b o))) (hC : Has w g 32 (fun p => .int .i64 (cellC p))) :
    Calls Try.prog 126 #[.slice (some ⟨g, 0, none⟩) 16 cap, .func (.func 127) #[] #[.pointer (some ⟨B0, 0, none⟩)]] w fun e w' => e = .returned (.slice (some ⟨g, 0, none⟩) (emL b 16).length cap) ∧ Below β w w' ∧ Sl w' β (some ⟨g, 0, none⟩) ((emL b 16).length * 2) (fI (plF (emL b 16))) := by
  have HI := hide (indexDel_any b B0 g 16 cap rfl w hH hC)
  have HH := hide hH
  have HC := hide hC
  clear hH hC
  go_enter Try.func126, Try.ntmps126
  go_wp2_with fail
  refine HI.out.mono ?_
  rintro e w1 ⟨v, rfl, hv, hb1⟩
  have hB : Below β w w1 := hb1.mono hβ
  have i9 := HH.out.call hb1
  have iG := HC.out.call hb1
  have hs1 := hb1.size
  clear hb1
  rcases hv with ⟨rfl, hall⟩ | ⟨k, hk, rfl, hz, hall⟩
  · have hd := DfP.all hall
    have HD := hide hd
    clear hd hall
    go_wp2
    go_ret
    have e := HD.out.1
    refine ⟨by rw [← e]; rfl, hB, fun _ => ⟨g, rfl, hgβ, ?_⟩⟩
    rw [← e]
    exact iG.congr fun o ho => HD.out.cells o ho
  · have hd := DfP.start hall hz
    have HD := hide hd
    clear hd hall hz
    have hk1 : ((k : Int) == -1) = false := beq_eq_false_iff_ne.2 (by omega)
    go_wp2_with fail
    clear hk1
    go_loopw [5, 6] (fun v5 v6 wr => ∃ (i j : Nat) (D : Nat → Int), v5 = .int .i64 i ∧ v6 = .int .i64 j ∧ i < j ∧ j ≤ 16 ∧ Hid (DfP b D i j) ∧ Below β w wr ∧ Has wr B0 16 (fun o => .int .i64 (b o)) ∧ Has wr g 32 (fun o => .int .i64 (D o))) (fun _ j _ => 16 - (intOf j).toNat)
    case atStart => exact ⟨k, k + 1, cellC, rfl, by go_num, by omega, by omega, HD, hB, i9, iG⟩
    case round =>
      clear hB i9 iG hs1
      obtain ⟨i, j, D, rfl, rfl, hij, hjn, HD, hB, i9, iG⟩ := hrel
      have hsw := hB.size
      by_cases hlt : j < 16
      · obtain ⟨x, y, hx0, hx3, hy0, hy3, hDxy, hxy, q1, q2⟩ := cellD_xy iG hlt (HD.out.2.2 j (Nat.le_refl _))
        have hg7 := iG.2.2
        have hB07 := i9.2.2
        go_upto_region 8 with (fail)
        generalize hW : World.alloc wr _ = w5
        have hB5 : Below β w w5 := hW ▸ hB.alloc (by omega) _
        have j9 := Has.at hW (i9.alloc _)
        have jG := Has.at hW (iG.alloc _)
        have j7 := Has.at hW has_two'
        clear hW hB i9 iG q1 q2
        generalize hS : wr.heap.size = B7 at *
        clear hS
        have hs5 := hB5.size
        have e0 : w5.cell? ⟨B7, 0, none⟩ = some (.int .i64 x) := two_x j7
        have e1 : w5.cell? ⟨B7, 1, none⟩ = some (.int .i64 y) := two_y j7
        by_cases hz : b j = 0
        · have hz' : (b j != 0) = false := by simpa using hz
          have HZ := hide hz
          clear hz
          go_wp2_with (first | ((go_at_call 127); (refine (del_any b B0 j hlt x y hx0 hx3 hy0 hy3 hxy _ j9).mono ?_); rintro e w2 ⟨rfl, hb2⟩; have hB2 := hB5.trans (hb2.mono (by omega)); have k9 := j9.call hb2; have kG := jG.call hb2; have f0 : w2.cell? ⟨B7, 0, none⟩ = some (.int .i64 x) := two_x (j7.call hb2); have f1 : w2.cell? ⟨B7, 1, none⟩ = some (.int .i64 y) := two_y (j7.call hb2); clear hb2 e0 e1 hB5 j9 jG) | (refine store_A2 rfl _ _ rfl _ _ _ _ rfl rfl rfl kG (by omega) ?_; intro w3 ho3 hn3))
          go_roundw
          case rel => exact ⟨i + 1, j + 1, _, by go_num, by go_num, by omega, by omega, hide (HD.out.keep HZ.out), below_only' hB2 ho3 hgβ, k9.only ho3 hne, hn3.congr fun o _ => by
            simp only [hDxy.out.1, hDxy.out.2]
            by_cases e1 : o = i * 2
            · simp [e1]
            · by_cases e2 : o = i * 2 + 1
              · simp [e2]
              · simp [e1, e2]⟩
          case measure => simp [intOf]; omega
        · have hz' : (b j != 0) = true := by simpa using hz
          have HZ := hide hz
          clear hz
          go_wp2_with ((go_at_call 127); (refine (del_any b B0 j hlt x y hx0 hx3 hy0 hy3 hxy _ j9).mono ?_); rintro e w2 ⟨rfl, hb2⟩; have hB2 := hB5.trans (hb2.mono (by omega)); have k9 := j9.call hb2; have kG := jG.call hb2; clear hb2 e0 e1 hB5 j9 jG)
          go_roundw
          case rel => exact ⟨i, j + 1, D, rfl, by go_num, by omega, by omega, hide (HD.out.drop HZ.out), hB2, k9, kG⟩
          case measure => simp [intOf]; omega
      · obtain rfl : j = 16 := by omega
        have hcap' : i < cap := by omega
        have e := HD.out.1
        have HE := hide e
        clear e
        go_wp2_with (refine clear_A2 rfl _ rfl _ _ _ _ rfl iG (by omega) (by omega) ?_; intro w3 ho3 hn3)
        go_ret
        refine ⟨by rw [← HE.out]; rfl, below_only' hB ho3 hgβ, ?_⟩
        rw [← HE.out]
        intro _
        refine ⟨g, rfl, hgβ, fun o ho => ?_, hn3.2.1, by have := hn3.2.2; exact this⟩
        rw [hn3.1 o (by omega)]
        simp only []
        rw [if_neg (by omega), HD.out.cells o ho]

end Go.Proofs.Ytegdnfmhhigjfaa
