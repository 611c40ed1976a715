/-
  Contracts: FormBehind and FormBack, the program's.
-/
import Derived.Test.YtjnmdhnckmmdnaaForm5
namespace Go.Proofs.Ytjnmdhnckmmdnaa
open Go.RowKit

set_option maxHeartbeats 8000000 in
set_option maxRecDepth 100000 in
theorem formBehind_any (k m : Int) (w : World) : Calls Try.prog 26 #[.int .i64 k, .int .i64 m] w fun e w' => e = .returned (.tuple #[.int .i64 (zr (inB k 0 7 && inB m 0 7) ((bhP k.toNat m.toNat : Nat) : Int)), .bool (inB k 0 7 && inB m 0 7)]) ∧ Below w.heap.size w w' := by
  cases hk : inB k 0 7
  · simp only [Bool.false_and, zr_false]
    go_enter Try.func26, Try.ntmps26
    have hB : Below w.heap.size w w := Below.refl _ _
    go_wp2_with (first | (go_at_call 85; refine (isForm_any _ _).mono ?_; rintro e w1 ⟨rfl, rfl⟩))
    go_ret2
    exact ⟨rfl, (by repeat (first | (with_reducible exact Below.refl _ _) | (with_reducible assumption) | (with_reducible refine below_go ?_ (by with_reducible assumption)) | (with_reducible refine below_new ?_ _) | ((with_reducible refine below_put ?_ ?_ _); rotate_left; (dsimp only; omega)) | (with_reducible refine Below.drew ?_) | (with_reducible refine below_dn ?_ _)))⟩
  · cases hm : inB m 0 7
    · simp only [Bool.and_false, zr_false]
      go_enter Try.func26, Try.ntmps26
      have hB : Below w.heap.size w w := Below.refl _ _
      go_wp2_with (first | (go_at_call 85; refine (isForm_any _ _).mono ?_; rintro e w1 ⟨rfl, rfl⟩))
      go_ret2
      exact ⟨rfl, (by repeat (first | (with_reducible exact Below.refl _ _) | (with_reducible assumption) | (with_reducible refine below_go ?_ (by with_reducible assumption)) | (with_reducible refine below_new ?_ _) | ((with_reducible refine below_put ?_ ?_ _); rotate_left; (dsimp only; omega)) | (with_reducible refine Below.drew ?_) | (with_reducible refine below_dn ?_ _)))⟩
    · obtain ⟨a, ha, rfl⟩ := form_nat hk
      obtain ⟨c, hc, rfl⟩ := form_nat hm
      simp only [Bool.and_self, zr_true, Int.toNat_natCast]
      have p0 := mvP_lt a ha 0 (by omega); have p1 := mvP_lt a ha 1 (by omega)
      obtain ⟨X, Y, hXY, hm0⟩ := moved_cell2 a 0 ha (by omega) 0 0 (hide ⟨rfl, rfl⟩)
      obtain ⟨Z, T, hZT, hm1⟩ := moved_cell2 a 1 ha (by omega) 0 1 (hide ⟨rfl, rfl⟩)
      obtain ⟨X', Y', hXY', hm2⟩ := moved_cell2 c _ hc p0 X Y hXY
      obtain ⟨Z', T', hZT', hm3⟩ := moved_cell2 c _ hc p1 Z T hZT
      go_enter Try.func26, Try.ntmps26
      have hB : Below w.heap.size w w := Below.refl _ _
      go_wp2_with (first | (go_at_call 85; refine (isForm_any _ _).mono ?_; rintro e w1 ⟨rfl, rfl⟩) | (go_at_call 87; (with_reducible refine (hm0 _).mono ?_); rintro e w2 ⟨rfl, hb2⟩; have hB' : Below w.heap.size w w2 := below_go (by repeat (first | (with_reducible exact Below.refl _ _) | (with_reducible assumption) | (with_reducible refine below_go ?_ (by with_reducible assumption)) | (with_reducible refine below_new ?_ _) | ((with_reducible refine below_put ?_ ?_ _); rotate_left; (dsimp only; omega)) | (with_reducible refine Below.drew ?_) | (with_reducible refine below_dn ?_ _))) hb2; clear hB hb2; have hB := hB'; clear hB') | (go_at_call 87; (with_reducible refine (hm1 _).mono ?_); rintro e w2 ⟨rfl, hb2⟩; have hB' : Below w.heap.size w w2 := below_go (by repeat (first | (with_reducible exact Below.refl _ _) | (with_reducible assumption) | (with_reducible refine below_go ?_ (by with_reducible assumption)) | (with_reducible refine below_new ?_ _) | ((with_reducible refine below_put ?_ ?_ _); rotate_left; (dsimp only; omega)) | (with_reducible refine Below.drew ?_) | (with_reducible refine below_dn ?_ _))) hb2; clear hB hb2; have hB := hB'; clear hB') | (go_at_call 87; (with_reducible refine (hm2 _).mono ?_); rintro e w2 ⟨rfl, hb2⟩; have hB' : Below w.heap.size w w2 := below_go (by repeat (first | (with_reducible exact Below.refl _ _) | (with_reducible assumption) | (with_reducible refine below_go ?_ (by with_reducible assumption)) | (with_reducible refine below_new ?_ _) | ((with_reducible refine below_put ?_ ?_ _); rotate_left; (dsimp only; omega)) | (with_reducible refine Below.drew ?_) | (with_reducible refine below_dn ?_ _))) hb2; clear hB hb2; have hB := hB'; clear hB') | (go_at_call 87; (with_reducible refine (hm3 _).mono ?_); rintro e w2 ⟨rfl, hb2⟩; have hB' : Below w.heap.size w w2 := below_go (by repeat (first | (with_reducible exact Below.refl _ _) | (with_reducible assumption) | (with_reducible refine below_go ?_ (by with_reducible assumption)) | (with_reducible refine below_new ?_ _) | ((with_reducible refine below_put ?_ ?_ _); rotate_left; (dsimp only; omega)) | (with_reducible refine Below.drew ?_) | (with_reducible refine below_dn ?_ _))) hb2; clear hB hb2; have hB := hB'; clear hB') | (go_at_call 86; (with_reducible refine (formLike_any _ _ _ _ _ _ hXY' hZT' _).mono ?_); rintro e w2 ⟨rfl, hb2⟩; have hB' : Below w.heap.size w w2 := below_go (by repeat (first | (with_reducible exact Below.refl _ _) | (with_reducible assumption) | (with_reducible refine below_go ?_ (by with_reducible assumption)) | (with_reducible refine below_new ?_ _) | ((with_reducible refine below_put ?_ ?_ _); rotate_left; (dsimp only; omega)) | (with_reducible refine Below.drew ?_) | (with_reducible refine below_dn ?_ _))) hb2; clear hB hb2; have hB := hB'; clear hB'))
      go_ret2
      exact ⟨ret_ib2 (by rw [bhP_like]), (by repeat (first | (with_reducible exact Below.refl _ _) | (with_reducible assumption) | (with_reducible refine below_go ?_ (by with_reducible assumption)) | (with_reducible refine below_new ?_ _) | ((with_reducible refine below_put ?_ ?_ _); rotate_left; (dsimp only; omega)) | (with_reducible refine Below.drew ?_) | (with_reducible refine below_dn ?_ _)))⟩

theorem behind_no (k : Int) (hk : inB k 0 7 = false) (m : Int) (w : World) : Calls Try.prog 26 #[.int .i64 k, .int .i64 m] w fun e w' => e = .returned (.tuple #[.int .i64 0, .bool false]) ∧ Below w.heap.size w w' := by
  have h := formBehind_any k m w
  rw [hk] at h
  simp only [Bool.false_and, zr_false] at h
  exact h
theorem behind_yes (a j : Nat) (ha : a < 8) (hj : j < 8) (w : World) : Calls Try.prog 26 #[.int .i64 a, .int .i64 j] w fun e w' => e = .returned (.tuple #[.int .i64 ((bhP a j : Nat) : Int), .bool true]) ∧ Below w.heap.size w w' := by
  have h := formBehind_any a j w
  have e1 : inB (a : Int) 0 7 = true := by simp [inB]; omega
  have e2 : inB (j : Int) 0 7 = true := by simp [inB]; omega
  rw [e1, e2] at h
  simp only [Bool.and_self, zr_true, Int.toNat_natCast] at h
  exact h

set_option maxHeartbeats 8000000 in
set_option maxRecDepth 100000 in
theorem formBack_any (k : Int) (w : World) : Calls Try.prog 28 #[.int .i64 k] w fun e w' => e = .returned (.tuple #[.int .i64 (zr (inB k 0 7) ((bkP k.toNat : Nat) : Int)), .bool (inB k 0 7)]) ∧ Below w.heap.size w w' := by
  cases hk : inB k 0 7
  · simp only [zr_false]
    go_enter Try.func28, Try.ntmps28
    go_wp2_with fail
    go_loopw [7] (fun v wr => ∃ j : Nat, j ≤ 8 ∧ v = .int .i64 j ∧ Below w.heap.size w wr) (fun i _ => 8 - (intOf i).toNat)
    case atStart => exact ⟨0, by omega, rfl, (by repeat (first | (with_reducible exact Below.refl _ _) | (with_reducible assumption) | (with_reducible refine below_go ?_ (by with_reducible assumption)) | (with_reducible refine below_new ?_ _) | ((with_reducible refine below_put ?_ ?_ _); rotate_left; (dsimp only; omega)) | (with_reducible refine Below.drew ?_) | (with_reducible refine below_dn ?_ _)))⟩
    case round =>
      obtain ⟨j, hj, rfl, hB⟩ := hrel
      by_cases h4 : j = 8
      · subst h4
        go_wp2
        go_ret2
        exact ⟨rfl, hB⟩
      · have hlt : j < 8 := by omega
        go_wp2_with (first | (go_at_call 26; (with_reducible refine (behind_no _ hk _ _).mono ?_); rintro e w2 ⟨rfl, hb2⟩; have hB' : Below w.heap.size w w2 := below_go (by repeat (first | (with_reducible exact Below.refl _ _) | (with_reducible assumption) | (with_reducible refine below_go ?_ (by with_reducible assumption)) | (with_reducible refine below_new ?_ _) | ((with_reducible refine below_put ?_ ?_ _); rotate_left; (dsimp only; omega)) | (with_reducible refine Below.drew ?_) | (with_reducible refine below_dn ?_ _))) hb2; clear hB hb2; have hB := hB'; clear hB'))
        go_roundw
        case rel => exact ⟨j + 1, by omega, by go_num, (by repeat (first | (with_reducible exact Below.refl _ _) | (with_reducible assumption) | (with_reducible refine below_go ?_ (by with_reducible assumption)) | (with_reducible refine below_new ?_ _) | ((with_reducible refine below_put ?_ ?_ _); rotate_left; (dsimp only; omega)) | (with_reducible refine Below.drew ?_) | (with_reducible refine below_dn ?_ _)))⟩
        case measure => simp [intOf]; omega
  · obtain ⟨a, ha, rfl⟩ := form_nat hk
    simp only [zr_true, Int.toNat_natCast]
    have hK := bkP_lt a ha
    have hN := bkP_first a ha
    have HE := hide hN.1; have HA := hide hN.2
    clear hN
    go_enter Try.func28, Try.ntmps28
    go_wp2_with fail
    go_loopw [7] (fun v wr => ∃ j : Nat, j ≤ bkP a ∧ v = .int .i64 j ∧ Below w.heap.size w wr) (fun i _ => bkP a - (intOf i).toNat)
    case atStart => exact ⟨0, by omega, rfl, (by repeat (first | (with_reducible exact Below.refl _ _) | (with_reducible assumption) | (with_reducible refine below_go ?_ (by with_reducible assumption)) | (with_reducible refine below_new ?_ _) | ((with_reducible refine below_put ?_ ?_ _); rotate_left; (dsimp only; omega)) | (with_reducible refine Below.drew ?_) | (with_reducible refine below_dn ?_ _)))⟩
    case round =>
      obtain ⟨j, hj, rfl, hB⟩ := hrel
      have hlt : j < 8 := by omega
      by_cases h4 : j = bkP a
      · have hz : (((bhP a j : Nat) : Int) == 0) = true := by rw [h4, HE.out]; rfl
        have HJ := hide h4
        clear h4
        go_wp2_with (first | (go_at_call 26; (with_reducible refine (behind_yes _ _ ha hlt _).mono ?_); rintro e w2 ⟨rfl, hb2⟩; have hB' : Below w.heap.size w w2 := below_go (by repeat (first | (with_reducible exact Below.refl _ _) | (with_reducible assumption) | (with_reducible refine below_go ?_ (by with_reducible assumption)) | (with_reducible refine below_new ?_ _) | ((with_reducible refine below_put ?_ ?_ _); rotate_left; (dsimp only; omega)) | (with_reducible refine Below.drew ?_) | (with_reducible refine below_dn ?_ _))) hb2; clear hB hb2; have hB := hB'; clear hB'))
        go_ret2
        exact ⟨ret_ib2 (by rw [HJ.out]), (by repeat (first | (with_reducible exact Below.refl _ _) | (with_reducible assumption) | (with_reducible refine below_go ?_ (by with_reducible assumption)) | (with_reducible refine below_new ?_ _) | ((with_reducible refine below_put ?_ ?_ _); rotate_left; (dsimp only; omega)) | (with_reducible refine Below.drew ?_) | (with_reducible refine below_dn ?_ _)))⟩
      · have hl : j < bkP a := by omega
        have hz : (((bhP a j : Nat) : Int) == 0) = false := by
          have := HA.out j hl
          rw [beq_eq_false_iff_ne]; omega
        go_wp2_with (first | (go_at_call 26; (with_reducible refine (behind_yes _ _ ha hlt _).mono ?_); rintro e w2 ⟨rfl, hb2⟩; have hB' : Below w.heap.size w w2 := below_go (by repeat (first | (with_reducible exact Below.refl _ _) | (with_reducible assumption) | (with_reducible refine below_go ?_ (by with_reducible assumption)) | (with_reducible refine below_new ?_ _) | ((with_reducible refine below_put ?_ ?_ _); rotate_left; (dsimp only; omega)) | (with_reducible refine Below.drew ?_) | (with_reducible refine below_dn ?_ _))) hb2; clear hB hb2; have hB := hB'; clear hB'))
        go_roundw
        case rel => exact ⟨j + 1, by omega, by go_num, (by repeat (first | (with_reducible exact Below.refl _ _) | (with_reducible assumption) | (with_reducible refine below_go ?_ (by with_reducible assumption)) | (with_reducible refine below_new ?_ _) | ((with_reducible refine below_put ?_ ?_ _); rotate_left; (dsimp only; omega)) | (with_reducible refine Below.drew ?_) | (with_reducible refine below_dn ?_ _)))⟩
        case measure => simp [intOf]; omega

end Go.Proofs.Ytjnmdhnckmmdnaa
