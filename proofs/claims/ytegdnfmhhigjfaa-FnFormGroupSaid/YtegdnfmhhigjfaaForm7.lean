/-
  Contracts: FormBehind and FormBack, the reference's.
-/
import Derived.Test.YtegdnfmhhigjfaaQFgD
import Derived.Test.YtegdnfmhhigjfaaQEqlB
namespace Go.Proofs.Ytegdnfmhhigjfaa
open Go.RowKit

set_option maxHeartbeats 4000000 in
theorem l3Marked_any (w : World) : Calls Try.prog 70 #[] w fun e w' => e = .returned (.agg #[.int .i64 (mkB 0), .int .i64 (mkB 1), .int .i64 (mkB 2), .int .i64 (mkB 3), .int .i64 (mkB 4), .int .i64 (mkB 5), .int .i64 (mkB 6), .int .i64 (mkB 7), .int .i64 (mkB 8), .int .i64 (mkB 9), .int .i64 (mkB 10), .int .i64 (mkB 11), .int .i64 (mkB 12), .int .i64 (mkB 13), .int .i64 (mkB 14), .int .i64 (mkB 15)]) ∧ Below w.heap.size w w' := by
  go_enter Try.func70, Try.ntmps70
  go_wp2
  refine bodyPost_ret (v := .agg #[.int .i64 (mkB 0), .int .i64 (mkB 1), .int .i64 (mkB 2), .int .i64 (mkB 3), .int .i64 (mkB 4), .int .i64 (mkB 5), .int .i64 (mkB 6), .int .i64 (mkB 7), .int .i64 (mkB 8), .int .i64 (mkB 9), .int .i64 (mkB 10), .int .i64 (mkB 11), .int .i64 (mkB 12), .int .i64 (mkB 13), .int .i64 (mkB 14), .int .i64 (mkB 15)]) (by simp [results, Try.results70, go_sem, mkB]) rfl ⟨rfl, (by repeat (first | (with_reducible exact Below.refl _ _) | (with_reducible assumption) | (with_reducible refine below_go ?_ (by with_reducible assumption)) | (with_reducible refine below_new ?_ _) | ((with_reducible refine below_put ?_ ?_ _); rotate_left; (dsimp only; omega)) | (with_reducible refine Below.drew ?_) | (with_reducible refine below_dn ?_ _)))⟩

set_option maxHeartbeats 8000000 in
set_option maxRecDepth 100000 in
theorem l3Number_any (b : Nat → Int) (K : Nat) (hK : K < 8) (hE : Hid (eqB (formB mkB K) b = true)) (hA : Hid (∀ j, j < K → eqB (formB mkB j) b = false)) (w : World) :
    Calls Try.prog 69 #[.agg #[.int .i64 (b 0), .int .i64 (b 1), .int .i64 (b 2), .int .i64 (b 3), .int .i64 (b 4), .int .i64 (b 5), .int .i64 (b 6), .int .i64 (b 7), .int .i64 (b 8), .int .i64 (b 9), .int .i64 (b 10), .int .i64 (b 11), .int .i64 (b 12), .int .i64 (b 13), .int .i64 (b 14), .int .i64 (b 15)]] w fun e w' => e = .returned (.int .i64 ((K : Nat) : Int)) ∧ Below w.heap.size w w' := by
  go_enter Try.func69, Try.ntmps69
  go_upto_region 1 with (fail)
  generalize hW : w.alloc _ = w1
  have hB : Below w.heap.size w w1 := by (rw [← hW]; exact (by repeat (first | (with_reducible exact Below.refl _ _) | (with_reducible assumption) | (with_reducible refine below_go ?_ (by with_reducible assumption)) | (with_reducible refine below_new ?_ _) | ((with_reducible refine below_put ?_ ?_ _); rotate_left; (dsimp only; omega)) | (with_reducible refine Below.drew ?_) | (with_reducible refine below_dn ?_ _))))
  have hsz : Hid (w1.heap.size = w.heap.size + 1) := hide (by rw [← hW]; simp)
  have i0 : Has w1 (w.heap.size) 16 (fun o => .int .i64 (b o)) := by (rw [← hW]; repeat (first | (refine Has.new ?_ rfl; simp; done) | refine Has.alloc ?_ _))
  have ci0 := i0.1; have fi0 := i0.2.1; have zi0 := i0.2.2
  clear hW
  clear ci0 fi0 zi0 hsz
  go_wp2_with fail
  go_loopw [3] (fun v wr => ∃ j : Nat, j ≤ K ∧ v = .int .i64 j ∧ Below w.heap.size w wr ∧ Has wr w.heap.size 16 (fun o => .int .i64 (b o))) (fun i _ => K - (intOf i).toNat)
  case atStart => exact ⟨0, by omega, rfl, hB, i0⟩
  case round =>
    clear hB i0
    obtain ⟨j, hj, rfl, hB, i0⟩ := hrel
    have hj8 : j < 8 := by omega
    have a0 : (0 : Int) ≤ j := by omega
    have a1 : (j : Int) < 8 := by omega
    have ci0 := i0.1; have zi0 := i0.2.2
    by_cases h4 : j = K
    · subst h4
      have hq : ∀ w, (binOp .neq 27 (.agg #[.int .i64 ((formB mkB j) 0), .int .i64 ((formB mkB j) 1), .int .i64 ((formB mkB j) 2), .int .i64 ((formB mkB j) 3), .int .i64 ((formB mkB j) 4), .int .i64 ((formB mkB j) 5), .int .i64 ((formB mkB j) 6), .int .i64 ((formB mkB j) 7), .int .i64 ((formB mkB j) 8), .int .i64 ((formB mkB j) 9), .int .i64 ((formB mkB j) 10), .int .i64 ((formB mkB j) 11), .int .i64 ((formB mkB j) 12), .int .i64 ((formB mkB j) 13), .int .i64 ((formB mkB j) 14), .int .i64 ((formB mkB j) 15)]) (.agg #[.int .i64 (b 0), .int .i64 (b 1), .int .i64 (b 2), .int .i64 (b 3), .int .i64 (b 4), .int .i64 (b 5), .int .i64 (b 6), .int .i64 (b 7), .int .i64 (b 8), .int .i64 (b 9), .int .i64 (b 10), .int .i64 (b 11), .int .i64 (b 12), .int .i64 (b 13), .int .i64 (b 14), .int .i64 (b 15)])).run Try.prog w = .ok (.bool false) w := fun w => by rw [run_neq_Board, hE.out]; rfl
      go_wp2_with fail
      go_region_held3 (fun w' => ∀ o, o < 16 → w'.cell? ⟨w.heap.size, o, none⟩ = some (.int .i64 (b o))) (first | exact i0.1 | exact (Has.drew i0).1)
        (first | (go_at_call 70; (with_reducible refine (l3Marked_any _).mono ?_); rintro e w2 ⟨rfl, hb2⟩; have hB' : Below w.heap.size w w2 := below_go (by repeat (first | (with_reducible exact Below.refl _ _) | (with_reducible assumption) | (with_reducible refine below_go ?_ (by with_reducible assumption)) | (with_reducible refine below_new ?_ _) | ((with_reducible refine below_put ?_ ?_ _); rotate_left; (dsimp only; omega)) | (with_reducible refine Below.drew ?_) | (with_reducible refine below_dn ?_ _))) hb2; have i0' : Has w2 (w.heap.size) 16 _ := Has.call (by repeat (first | (with_reducible assumption) | (with_reducible apply Has.set) | ((with_reducible apply Has.other); (case hne => (dsimp only; omega))) | (with_reducible apply Has.alloc) | (with_reducible apply Has.drew) | (with_reducible apply Has.drewN))) hb2; clear hB hb2; have hB := hB'; clear hB'; (try clear fi0); (try clear zi0); (try clear ci0); clear i0; have i0 := i0'; clear i0'; have ci0 := i0.1; have fi0 := i0.2.1; have zi0 := i0.2.2) | (go_at_call 66; (with_reducible refine (l3Made_any _ _ hj8 _).mono ?_); rintro e w2 ⟨rfl, hb2⟩; have hB' : Below w.heap.size w w2 := below_go (by repeat (first | (with_reducible exact Below.refl _ _) | (with_reducible assumption) | (with_reducible refine below_go ?_ (by with_reducible assumption)) | (with_reducible refine below_new ?_ _) | ((with_reducible refine below_put ?_ ?_ _); rotate_left; (dsimp only; omega)) | (with_reducible refine Below.drew ?_) | (with_reducible refine below_dn ?_ _))) hb2; have i0' : Has w2 (w.heap.size) 16 _ := Has.call (by repeat (first | (with_reducible assumption) | (with_reducible apply Has.set) | ((with_reducible apply Has.other); (case hne => (dsimp only; omega))) | (with_reducible apply Has.alloc) | (with_reducible apply Has.drew) | (with_reducible apply Has.drewN))) hb2; clear hB hb2; have hB := hB'; clear hB'; (try clear fi0); (try clear zi0); (try clear ci0); clear i0; have i0 := i0'; clear i0'; have ci0 := i0.1; have fi0 := i0.2.1; have zi0 := i0.2.2))
      all_goals
        go_wp2
        go_ret
        exact ⟨rfl, (by repeat (first | (with_reducible exact Below.refl _ _) | (with_reducible assumption) | (with_reducible refine below_go ?_ (by with_reducible assumption)) | (with_reducible refine below_new ?_ _) | ((with_reducible refine below_put ?_ ?_ _); rotate_left; (dsimp only; omega)) | (with_reducible refine Below.drew ?_) | (with_reducible refine below_dn ?_ _)))⟩
    · have hlt : j < K := by omega
      have hn := hA.out j hlt
      have hq : ∀ w, (binOp .neq 27 (.agg #[.int .i64 ((formB mkB j) 0), .int .i64 ((formB mkB j) 1), .int .i64 ((formB mkB j) 2), .int .i64 ((formB mkB j) 3), .int .i64 ((formB mkB j) 4), .int .i64 ((formB mkB j) 5), .int .i64 ((formB mkB j) 6), .int .i64 ((formB mkB j) 7), .int .i64 ((formB mkB j) 8), .int .i64 ((formB mkB j) 9), .int .i64 ((formB mkB j) 10), .int .i64 ((formB mkB j) 11), .int .i64 ((formB mkB j) 12), .int .i64 ((formB mkB j) 13), .int .i64 ((formB mkB j) 14), .int .i64 ((formB mkB j) 15)]) (.agg #[.int .i64 (b 0), .int .i64 (b 1), .int .i64 (b 2), .int .i64 (b 3), .int .i64 (b 4), .int .i64 (b 5), .int .i64 (b 6), .int .i64 (b 7), .int .i64 (b 8), .int .i64 (b 9), .int .i64 (b 10), .int .i64 (b 11), .int .i64 (b 12), .int .i64 (b 13), .int .i64 (b 14), .int .i64 (b 15)])).run Try.prog w = .ok (.bool true) w := fun w => by rw [run_neq_Board, hn]; rfl
      clear hn
      go_wp2_with fail
      go_region_held3 (fun w' => ∀ o, o < 16 → w'.cell? ⟨w.heap.size, o, none⟩ = some (.int .i64 (b o))) (first | exact i0.1 | exact (Has.drew i0).1)
        (first | (go_at_call 70; (with_reducible refine (l3Marked_any _).mono ?_); rintro e w2 ⟨rfl, hb2⟩; have hB' : Below w.heap.size w w2 := below_go (by repeat (first | (with_reducible exact Below.refl _ _) | (with_reducible assumption) | (with_reducible refine below_go ?_ (by with_reducible assumption)) | (with_reducible refine below_new ?_ _) | ((with_reducible refine below_put ?_ ?_ _); rotate_left; (dsimp only; omega)) | (with_reducible refine Below.drew ?_) | (with_reducible refine below_dn ?_ _))) hb2; have i0' : Has w2 (w.heap.size) 16 _ := Has.call (by repeat (first | (with_reducible assumption) | (with_reducible apply Has.set) | ((with_reducible apply Has.other); (case hne => (dsimp only; omega))) | (with_reducible apply Has.alloc) | (with_reducible apply Has.drew) | (with_reducible apply Has.drewN))) hb2; clear hB hb2; have hB := hB'; clear hB'; (try clear fi0); (try clear zi0); (try clear ci0); clear i0; have i0 := i0'; clear i0'; have ci0 := i0.1; have fi0 := i0.2.1; have zi0 := i0.2.2) | (go_at_call 66; (with_reducible refine (l3Made_any _ _ hj8 _).mono ?_); rintro e w2 ⟨rfl, hb2⟩; have hB' : Below w.heap.size w w2 := below_go (by repeat (first | (with_reducible exact Below.refl _ _) | (with_reducible assumption) | (with_reducible refine below_go ?_ (by with_reducible assumption)) | (with_reducible refine below_new ?_ _) | ((with_reducible refine below_put ?_ ?_ _); rotate_left; (dsimp only; omega)) | (with_reducible refine Below.drew ?_) | (with_reducible refine below_dn ?_ _))) hb2; have i0' : Has w2 (w.heap.size) 16 _ := Has.call (by repeat (first | (with_reducible assumption) | (with_reducible apply Has.set) | ((with_reducible apply Has.other); (case hne => (dsimp only; omega))) | (with_reducible apply Has.alloc) | (with_reducible apply Has.drew) | (with_reducible apply Has.drewN))) hb2; clear hB hb2; have hB := hB'; clear hB'; (try clear fi0); (try clear zi0); (try clear ci0); clear i0; have i0 := i0'; clear i0'; have ci0 := i0.1; have fi0 := i0.2.1; have zi0 := i0.2.2))
      all_goals
        go_wp2
        go_roundw
        case rel => exact ⟨j + 1, by omega, by go_num, (by repeat (first | (with_reducible exact Below.refl _ _) | (with_reducible assumption) | (with_reducible refine below_go ?_ (by with_reducible assumption)) | (with_reducible refine below_new ?_ _) | ((with_reducible refine below_put ?_ ?_ _); rotate_left; (dsimp only; omega)) | (with_reducible refine Below.drew ?_) | (with_reducible refine below_dn ?_ _))), (by repeat (first | (with_reducible assumption) | (with_reducible apply Has.set) | ((with_reducible apply Has.other); (case hne => (dsimp only; omega))) | (with_reducible apply Has.alloc) | (with_reducible apply Has.drew) | (with_reducible apply Has.drewN)))⟩
        case measure => simp [intOf]; omega

set_option maxHeartbeats 8000000 in
set_option maxRecDepth 100000 in
theorem l3Back_any (k : Nat) (hk : k < 8) (w : World) : Calls Try.prog 71 #[.int .i64 k] w fun e w' => e = .returned (.int .i64 ((bkP k : Nat) : Int)) ∧ Below w.heap.size w w' := by
  have hK := bkP_lt k hk
  have hN := back_bk k hk
  have HE := hide hN.1; have HA := hide hN.2
  clear hN
  go_enter Try.func71, Try.ntmps71
  go_wp2_with fail
  go_loopw [3] (fun v wr => ∃ j : Nat, j ≤ bkP k ∧ v = .int .i64 j ∧ Below w.heap.size w wr) (fun i _ => bkP k - (intOf i).toNat)
  case atStart => exact ⟨0, by omega, rfl, (by repeat (first | (with_reducible exact Below.refl _ _) | (with_reducible assumption) | (with_reducible refine below_go ?_ (by with_reducible assumption)) | (with_reducible refine below_new ?_ _) | ((with_reducible refine below_put ?_ ?_ _); rotate_left; (dsimp only; omega)) | (with_reducible refine Below.drew ?_) | (with_reducible refine below_dn ?_ _)))⟩
  case round =>
    obtain ⟨j, hj, rfl, hB⟩ := hrel
    have hj8 : j < 8 := by omega
    have a0 : (0 : Int) ≤ j := by omega
    have a1 : (j : Int) < 8 := by omega
    by_cases h4 : j = bkP k
    · have HJ := hide h4
      have hq : ∀ w, (binOp .neq 27 (.agg #[.int .i64 ((formB (formB mkB k) j) 0), .int .i64 ((formB (formB mkB k) j) 1), .int .i64 ((formB (formB mkB k) j) 2), .int .i64 ((formB (formB mkB k) j) 3), .int .i64 ((formB (formB mkB k) j) 4), .int .i64 ((formB (formB mkB k) j) 5), .int .i64 ((formB (formB mkB k) j) 6), .int .i64 ((formB (formB mkB k) j) 7), .int .i64 ((formB (formB mkB k) j) 8), .int .i64 ((formB (formB mkB k) j) 9), .int .i64 ((formB (formB mkB k) j) 10), .int .i64 ((formB (formB mkB k) j) 11), .int .i64 ((formB (formB mkB k) j) 12), .int .i64 ((formB (formB mkB k) j) 13), .int .i64 ((formB (formB mkB k) j) 14), .int .i64 ((formB (formB mkB k) j) 15)]) (.agg #[.int .i64 (mkB 0), .int .i64 (mkB 1), .int .i64 (mkB 2), .int .i64 (mkB 3), .int .i64 (mkB 4), .int .i64 (mkB 5), .int .i64 (mkB 6), .int .i64 (mkB 7), .int .i64 (mkB 8), .int .i64 (mkB 9), .int .i64 (mkB 10), .int .i64 (mkB 11), .int .i64 (mkB 12), .int .i64 (mkB 13), .int .i64 (mkB 14), .int .i64 (mkB 15)])).run Try.prog w = .ok (.bool false) w := fun w => by rw [run_neq_Board, h4, HE.out]; rfl
      clear h4
      go_wp2_with (first | (go_at_call 70; (with_reducible refine (l3Marked_any _).mono ?_); rintro e w2 ⟨rfl, hb2⟩; have hB' : Below w.heap.size w w2 := below_go (by repeat (first | (with_reducible exact Below.refl _ _) | (with_reducible assumption) | (with_reducible refine below_go ?_ (by with_reducible assumption)) | (with_reducible refine below_new ?_ _) | ((with_reducible refine below_put ?_ ?_ _); rotate_left; (dsimp only; omega)) | (with_reducible refine Below.drew ?_) | (with_reducible refine below_dn ?_ _))) hb2; clear hB hb2; have hB := hB'; clear hB') | (go_at_call 66; (with_reducible refine (l3Made_any _ _ hk _).mono ?_); rintro e w2 ⟨rfl, hb2⟩; have hB' : Below w.heap.size w w2 := below_go (by repeat (first | (with_reducible exact Below.refl _ _) | (with_reducible assumption) | (with_reducible refine below_go ?_ (by with_reducible assumption)) | (with_reducible refine below_new ?_ _) | ((with_reducible refine below_put ?_ ?_ _); rotate_left; (dsimp only; omega)) | (with_reducible refine Below.drew ?_) | (with_reducible refine below_dn ?_ _))) hb2; clear hB hb2; have hB := hB'; clear hB') | (go_at_call 66; (with_reducible refine (l3Made_any _ _ hj8 _).mono ?_); rintro e w2 ⟨rfl, hb2⟩; have hB' : Below w.heap.size w w2 := below_go (by repeat (first | (with_reducible exact Below.refl _ _) | (with_reducible assumption) | (with_reducible refine below_go ?_ (by with_reducible assumption)) | (with_reducible refine below_new ?_ _) | ((with_reducible refine below_put ?_ ?_ _); rotate_left; (dsimp only; omega)) | (with_reducible refine Below.drew ?_) | (with_reducible refine below_dn ?_ _))) hb2; clear hB hb2; have hB := hB'; clear hB'))
      go_ret
      exact ⟨ret_int (by rw [HJ.out]), (by repeat (first | (with_reducible exact Below.refl _ _) | (with_reducible assumption) | (with_reducible refine below_go ?_ (by with_reducible assumption)) | (with_reducible refine below_new ?_ _) | ((with_reducible refine below_put ?_ ?_ _); rotate_left; (dsimp only; omega)) | (with_reducible refine Below.drew ?_) | (with_reducible refine below_dn ?_ _)))⟩
    · have hlt : j < bkP k := by omega
      have hn := HA.out j hlt
      have hq : ∀ w, (binOp .neq 27 (.agg #[.int .i64 ((formB (formB mkB k) j) 0), .int .i64 ((formB (formB mkB k) j) 1), .int .i64 ((formB (formB mkB k) j) 2), .int .i64 ((formB (formB mkB k) j) 3), .int .i64 ((formB (formB mkB k) j) 4), .int .i64 ((formB (formB mkB k) j) 5), .int .i64 ((formB (formB mkB k) j) 6), .int .i64 ((formB (formB mkB k) j) 7), .int .i64 ((formB (formB mkB k) j) 8), .int .i64 ((formB (formB mkB k) j) 9), .int .i64 ((formB (formB mkB k) j) 10), .int .i64 ((formB (formB mkB k) j) 11), .int .i64 ((formB (formB mkB k) j) 12), .int .i64 ((formB (formB mkB k) j) 13), .int .i64 ((formB (formB mkB k) j) 14), .int .i64 ((formB (formB mkB k) j) 15)]) (.agg #[.int .i64 (mkB 0), .int .i64 (mkB 1), .int .i64 (mkB 2), .int .i64 (mkB 3), .int .i64 (mkB 4), .int .i64 (mkB 5), .int .i64 (mkB 6), .int .i64 (mkB 7), .int .i64 (mkB 8), .int .i64 (mkB 9), .int .i64 (mkB 10), .int .i64 (mkB 11), .int .i64 (mkB 12), .int .i64 (mkB 13), .int .i64 (mkB 14), .int .i64 (mkB 15)])).run Try.prog w = .ok (.bool true) w := fun w => by rw [run_neq_Board, hn]; rfl
      clear hn
      go_wp2_with (first | (go_at_call 70; (with_reducible refine (l3Marked_any _).mono ?_); rintro e w2 ⟨rfl, hb2⟩; have hB' : Below w.heap.size w w2 := below_go (by repeat (first | (with_reducible exact Below.refl _ _) | (with_reducible assumption) | (with_reducible refine below_go ?_ (by with_reducible assumption)) | (with_reducible refine below_new ?_ _) | ((with_reducible refine below_put ?_ ?_ _); rotate_left; (dsimp only; omega)) | (with_reducible refine Below.drew ?_) | (with_reducible refine below_dn ?_ _))) hb2; clear hB hb2; have hB := hB'; clear hB') | (go_at_call 66; (with_reducible refine (l3Made_any _ _ hk _).mono ?_); rintro e w2 ⟨rfl, hb2⟩; have hB' : Below w.heap.size w w2 := below_go (by repeat (first | (with_reducible exact Below.refl _ _) | (with_reducible assumption) | (with_reducible refine below_go ?_ (by with_reducible assumption)) | (with_reducible refine below_new ?_ _) | ((with_reducible refine below_put ?_ ?_ _); rotate_left; (dsimp only; omega)) | (with_reducible refine Below.drew ?_) | (with_reducible refine below_dn ?_ _))) hb2; clear hB hb2; have hB := hB'; clear hB') | (go_at_call 66; (with_reducible refine (l3Made_any _ _ hj8 _).mono ?_); rintro e w2 ⟨rfl, hb2⟩; have hB' : Below w.heap.size w w2 := below_go (by repeat (first | (with_reducible exact Below.refl _ _) | (with_reducible assumption) | (with_reducible refine below_go ?_ (by with_reducible assumption)) | (with_reducible refine below_new ?_ _) | ((with_reducible refine below_put ?_ ?_ _); rotate_left; (dsimp only; omega)) | (with_reducible refine Below.drew ?_) | (with_reducible refine below_dn ?_ _))) hb2; clear hB hb2; have hB := hB'; clear hB'))
      go_roundw
      case rel => exact ⟨j + 1, by omega, by go_num, (by repeat (first | (with_reducible exact Below.refl _ _) | (with_reducible assumption) | (with_reducible refine below_go ?_ (by with_reducible assumption)) | (with_reducible refine below_new ?_ _) | ((with_reducible refine below_put ?_ ?_ _); rotate_left; (dsimp only; omega)) | (with_reducible refine Below.drew ?_) | (with_reducible refine below_dn ?_ _)))⟩
      case measure => simp [intOf]; omega

set_option maxHeartbeats 8000000 in
set_option maxRecDepth 100000 in
theorem specFormBehind_any (k m : Int) (w : World) : Calls Try.prog 13 #[.int .i64 k, .int .i64 m] w fun e w' => e = .returned (.tuple #[.int .i64 (zr (inB k 0 7 && inB m 0 7) ((bhP k.toNat m.toNat : Nat) : Int)), .bool (inB k 0 7 && inB m 0 7)]) ∧ Below w.heap.size w w' := by
  cases hk : inB k 0 7
  · simp only [Bool.false_and, zr_false]
    go_enter Try.func13, Try.ntmps13
    have hB : Below w.heap.size w w := Below.refl _ _
    go_wp2_with (first | (go_at_call 65; refine (l3Form_any _ _).mono ?_; rintro e w1 ⟨rfl, rfl⟩))
    go_ret2
    exact ⟨rfl, (by repeat (first | (with_reducible exact Below.refl _ _) | (with_reducible assumption) | (with_reducible refine below_go ?_ (by with_reducible assumption)) | (with_reducible refine below_new ?_ _) | ((with_reducible refine below_put ?_ ?_ _); rotate_left; (dsimp only; omega)) | (with_reducible refine Below.drew ?_) | (with_reducible refine below_dn ?_ _)))⟩
  · cases hm : inB m 0 7
    · simp only [Bool.and_false, zr_false]
      go_enter Try.func13, Try.ntmps13
      have hB : Below w.heap.size w w := Below.refl _ _
      go_wp2_with (first | (go_at_call 65; refine (l3Form_any _ _).mono ?_; rintro e w1 ⟨rfl, rfl⟩))
      go_ret2
      exact ⟨rfl, (by repeat (first | (with_reducible exact Below.refl _ _) | (with_reducible assumption) | (with_reducible refine below_go ?_ (by with_reducible assumption)) | (with_reducible refine below_new ?_ _) | ((with_reducible refine below_put ?_ ?_ _); rotate_left; (dsimp only; omega)) | (with_reducible refine Below.drew ?_) | (with_reducible refine below_dn ?_ _)))⟩
    · obtain ⟨a, ha, rfl⟩ := form_nat hk
      obtain ⟨c, hc, rfl⟩ := form_nat hm
      simp only [Bool.and_self, zr_true, Int.toNat_natCast]
      have hN := number_bh a ha c hc
      have HE := hide hN.1; have HA := hide hN.2
      clear hN
      go_enter Try.func13, Try.ntmps13
      have hB : Below w.heap.size w w := Below.refl _ _
      go_wp2_with (first | (go_at_call 65; refine (l3Form_any _ _).mono ?_; rintro e w1 ⟨rfl, rfl⟩) | (go_at_call 70; (with_reducible refine (l3Marked_any _).mono ?_); rintro e w2 ⟨rfl, hb2⟩; have hB' : Below w.heap.size w w2 := below_go (by repeat (first | (with_reducible exact Below.refl _ _) | (with_reducible assumption) | (with_reducible refine below_go ?_ (by with_reducible assumption)) | (with_reducible refine below_new ?_ _) | ((with_reducible refine below_put ?_ ?_ _); rotate_left; (dsimp only; omega)) | (with_reducible refine Below.drew ?_) | (with_reducible refine below_dn ?_ _))) hb2; clear hB hb2; have hB := hB'; clear hB') | (go_at_call 66; (with_reducible refine (l3Made_any _ _ ha _).mono ?_); rintro e w2 ⟨rfl, hb2⟩; have hB' : Below w.heap.size w w2 := below_go (by repeat (first | (with_reducible exact Below.refl _ _) | (with_reducible assumption) | (with_reducible refine below_go ?_ (by with_reducible assumption)) | (with_reducible refine below_new ?_ _) | ((with_reducible refine below_put ?_ ?_ _); rotate_left; (dsimp only; omega)) | (with_reducible refine Below.drew ?_) | (with_reducible refine below_dn ?_ _))) hb2; clear hB hb2; have hB := hB'; clear hB') | (go_at_call 66; (with_reducible refine (l3Made_any _ _ hc _).mono ?_); rintro e w2 ⟨rfl, hb2⟩; have hB' : Below w.heap.size w w2 := below_go (by repeat (first | (with_reducible exact Below.refl _ _) | (with_reducible assumption) | (with_reducible refine below_go ?_ (by with_reducible assumption)) | (with_reducible refine below_new ?_ _) | ((with_reducible refine below_put ?_ ?_ _); rotate_left; (dsimp only; omega)) | (with_reducible refine Below.drew ?_) | (with_reducible refine below_dn ?_ _))) hb2; clear hB hb2; have hB := hB'; clear hB') | (go_at_call 69; (with_reducible refine (l3Number_any _ _ (bhP_lt a ha c hc) HE HA _).mono ?_); rintro e w2 ⟨rfl, hb2⟩; have hB' : Below w.heap.size w w2 := below_go (by repeat (first | (with_reducible exact Below.refl _ _) | (with_reducible assumption) | (with_reducible refine below_go ?_ (by with_reducible assumption)) | (with_reducible refine below_new ?_ _) | ((with_reducible refine below_put ?_ ?_ _); rotate_left; (dsimp only; omega)) | (with_reducible refine Below.drew ?_) | (with_reducible refine below_dn ?_ _))) hb2; clear hB hb2; have hB := hB'; clear hB'))
      go_ret2
      exact ⟨rfl, (by repeat (first | (with_reducible exact Below.refl _ _) | (with_reducible assumption) | (with_reducible refine below_go ?_ (by with_reducible assumption)) | (with_reducible refine below_new ?_ _) | ((with_reducible refine below_put ?_ ?_ _); rotate_left; (dsimp only; omega)) | (with_reducible refine Below.drew ?_) | (with_reducible refine below_dn ?_ _)))⟩

set_option maxHeartbeats 4000000 in
theorem specFormBack_any (k : Int) (w : World) : Calls Try.prog 15 #[.int .i64 k] w fun e w' => e = .returned (.tuple #[.int .i64 (zr (inB k 0 7) ((bkP k.toNat : Nat) : Int)), .bool (inB k 0 7)]) ∧ Below w.heap.size w w' := by
  cases hk : inB k 0 7
  · simp only [zr_false]
    go_enter Try.func15, Try.ntmps15
    go_wp2_with (first | (go_at_call 65; refine (l3Form_any _ _).mono ?_; rintro e w1 ⟨rfl, rfl⟩))
    go_ret2
    exact ⟨rfl, (by repeat (first | (with_reducible exact Below.refl _ _) | (with_reducible assumption) | (with_reducible refine below_go ?_ (by with_reducible assumption)) | (with_reducible refine below_new ?_ _) | ((with_reducible refine below_put ?_ ?_ _); rotate_left; (dsimp only; omega)) | (with_reducible refine Below.drew ?_) | (with_reducible refine below_dn ?_ _)))⟩
  · obtain ⟨a, ha, rfl⟩ := form_nat hk
    simp only [zr_true, Int.toNat_natCast]
    go_enter Try.func15, Try.ntmps15
    have hB : Below w.heap.size w w := Below.refl _ _
    go_wp2_with (first | (go_at_call 65; refine (l3Form_any _ _).mono ?_; rintro e w1 ⟨rfl, rfl⟩) | (go_at_call 71; (with_reducible refine (l3Back_any _ ha _).mono ?_); rintro e w2 ⟨rfl, hb2⟩; have hB' : Below w.heap.size w w2 := below_go (by repeat (first | (with_reducible exact Below.refl _ _) | (with_reducible assumption) | (with_reducible refine below_go ?_ (by with_reducible assumption)) | (with_reducible refine below_new ?_ _) | ((with_reducible refine below_put ?_ ?_ _); rotate_left; (dsimp only; omega)) | (with_reducible refine Below.drew ?_) | (with_reducible refine below_dn ?_ _))) hb2; clear hB hb2; have hB := hB'; clear hB'))
    go_ret2
    exact ⟨rfl, (by repeat (first | (with_reducible exact Below.refl _ _) | (with_reducible assumption) | (with_reducible refine below_go ?_ (by with_reducible assumption)) | (with_reducible refine below_new ?_ _) | ((with_reducible refine below_put ?_ ?_ _); rotate_left; (dsimp only; omega)) | (with_reducible refine Below.drew ?_) | (with_reducible refine below_dn ?_ _)))⟩

end Go.Proofs.Ytegdnfmhhigjfaa
