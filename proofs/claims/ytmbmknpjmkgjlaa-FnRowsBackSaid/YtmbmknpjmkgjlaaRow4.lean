/-
  Contracts: RowAt, the program's and the reference's.
-/
import Derived.Test.YtmbmknpjmkgjlaaRow3
namespace Go.Proofs.Ytmbmknpjmkgjlaa
open Go.RowKit

theorem inB_true {n lo hi : Int} (h : inB n lo hi = true) : lo ≤ n ∧ n ≤ hi := by simpa [inB] using h

set_option maxHeartbeats 1000000 in
theorem rowAt_any (n : Int) (w : World) : Calls Try.prog 40 #[.int .i64 n] w fun e w' => e = .returned (.tuple #[.agg #[.int .i64 (zr (inB n 0 104975) (n / 5832)), .int .i64 (zr (inB n 0 104975) (n / 324 % 18)), .int .i64 (zr (inB n 0 104975) (n / 18 % 18)), .int .i64 (zr (inB n 0 104975) (n % 18))], .bool (inB n 0 104975)]) ∧ Below w.heap.size w w' := by
  cases h : inB n 0 104975
  · simp only [zr_false]
    go_enter Try.func40, Try.ntmps40
    go_wp2_with (first | (go_at_call 48; refine (in_any _ _ _ _).mono ?_; rintro e w1 ⟨rfl, rfl⟩))
    refine bodyPost_ret (v := .tuple #[.agg #[.int .i64 0, .int .i64 0, .int .i64 0, .int .i64 0], .bool false]) (by simp [results, Try.results40, go_sem]) rfl ⟨rfl, (by repeat (first | (with_reducible exact Below.refl _ _) | (with_reducible assumption) | (with_reducible refine below_go ?_ (by with_reducible assumption)) | (with_reducible refine below_new ?_ _) | ((with_reducible refine below_put ?_ ?_ _); rotate_left; (dsimp only; omega)) | (with_reducible refine Below.drew ?_) | (with_reducible refine below_dn ?_ _)))⟩
  · simp only [zr_true]
    have hb := inB_true h
    obtain ⟨b0, b1⟩ := hb
    go_enter Try.func40, Try.ntmps40
    go_wp2_with (first | (go_at_call 48; refine (in_any _ _ _ _).mono ?_; rintro e w1 ⟨rfl, rfl⟩))
    refine bodyPost_ret (v := .tuple #[.agg #[.int .i64 (n / 5832), .int .i64 (n / 324 % 18), .int .i64 (n / 18 % 18), .int .i64 (n % 18)], .bool true]) (by simp [results, Try.results40, go_sem]) rfl ⟨rfl, (by repeat (first | (with_reducible exact Below.refl _ _) | (with_reducible assumption) | (with_reducible refine below_go ?_ (by with_reducible assumption)) | (with_reducible refine below_new ?_ _) | ((with_reducible refine below_put ?_ ?_ _); rotate_left; (dsimp only; omega)) | (with_reducible refine Below.drew ?_) | (with_reducible refine below_dn ?_ _)))⟩

set_option maxHeartbeats 1000000 in
theorem l4At_any (n : Int) (w : World) (b0 : 0 ≤ n) (b1 : n ≤ 104975) : Calls Try.prog 67 #[.int .i64 n] w fun e w' => e = .returned (.agg #[.int .i64 (n / 5832), .int .i64 (n / 324 % 18), .int .i64 (n / 18 % 18), .int .i64 (n % 18)]) ∧ Below w.heap.size w w' := by
  go_enter Try.func67, Try.ntmps67
  go_wp2
  refine bodyPost_ret (v := .agg #[.int .i64 (n / 5832), .int .i64 (n / 324 % 18), .int .i64 (n / 18 % 18), .int .i64 (n % 18)]) (by simp [results, Try.results67, go_sem]) rfl ⟨rfl, (by repeat (first | (with_reducible exact Below.refl _ _) | (with_reducible assumption) | (with_reducible refine below_go ?_ (by with_reducible assumption)) | (with_reducible refine below_new ?_ _) | ((with_reducible refine below_put ?_ ?_ _); rotate_left; (dsimp only; omega)) | (with_reducible refine Below.drew ?_) | (with_reducible refine below_dn ?_ _)))⟩

set_option maxHeartbeats 1000000 in
theorem specRowAt_any (n : Int) (w : World) : Calls Try.prog 41 #[.int .i64 n] w fun e w' => e = .returned (.tuple #[.agg #[.int .i64 (zr (inB n 0 104975) (n / 5832)), .int .i64 (zr (inB n 0 104975) (n / 324 % 18)), .int .i64 (zr (inB n 0 104975) (n / 18 % 18)), .int .i64 (zr (inB n 0 104975) (n % 18))], .bool (inB n 0 104975)]) ∧ Below w.heap.size w w' := by
  cases h : inB n 0 104975
  · simp only [zr_false]
    go_enter Try.func41, Try.ntmps41
    go_wp2_with (first | (go_at_call 46; refine (l1In_any _ _ _ _).mono ?_; rintro e w1 ⟨rfl, rfl⟩))
    refine bodyPost_ret (v := .tuple #[.agg #[.int .i64 0, .int .i64 0, .int .i64 0, .int .i64 0], .bool false]) (by simp [results, Try.results41, go_sem]) rfl ⟨rfl, (by repeat (first | (with_reducible exact Below.refl _ _) | (with_reducible assumption) | (with_reducible refine below_go ?_ (by with_reducible assumption)) | (with_reducible refine below_new ?_ _) | ((with_reducible refine below_put ?_ ?_ _); rotate_left; (dsimp only; omega)) | (with_reducible refine Below.drew ?_) | (with_reducible refine below_dn ?_ _)))⟩
  · simp only [zr_true]
    have hb := inB_true h
    obtain ⟨b0, b1⟩ := hb
    go_enter Try.func41, Try.ntmps41
    go_wp2_with (first | (go_at_call 46; refine (l1In_any _ _ _ _).mono ?_; rintro e w1 ⟨rfl, rfl⟩) | (go_at_call 67; go_in))
    refine bodyPost_ret (v := .tuple #[.agg #[.int .i64 (n / 5832), .int .i64 (n / 324 % 18), .int .i64 (n / 18 % 18), .int .i64 (n % 18)], .bool true]) (by simp [results, Try.results41, go_sem]) rfl ⟨rfl, (by repeat (first | (with_reducible exact Below.refl _ _) | (with_reducible assumption) | (with_reducible refine below_go ?_ (by with_reducible assumption)) | (with_reducible refine below_new ?_ _) | ((with_reducible refine below_put ?_ ?_ _); rotate_left; (dsimp only; omega)) | (with_reducible refine Below.drew ?_) | (with_reducible refine below_dn ?_ _)))⟩

end Go.Proofs.Ytmbmknpjmkgjlaa
