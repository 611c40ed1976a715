/-
  Contracts: AppendChecksum, the program's and the reference's.
-/
import Derived.Test.YtbgfdeicjaencaaDoorChk
namespace Go.Proofs.YtbgfdeicjaencaaDoor
open Go.RowKit

/-- A string with its checksum. -/
def slS (s : ByteArray) : ByteArray := (s ++ ⟨#[35]⟩) ++ mkS (Lib.itoa (ckS s : Int))
theorem ck_len (s : ByteArray) : (mkS (Lib.itoa (ckS s : Int))).size ≤ 30 := by
  have h := ckTo_lt s s.size
  have := Lib.itoa_length_le (ckS s : Int) (by unfold ckS; omega) (by unfold ckS; omega)
  rw [mkS_size]; omega
theorem ck_bd (s : ByteArray) : (0 : Int) ≤ ckS s ∧ (ckS s : Int) ≤ 999978 := by
  have h := ckTo_lt s s.size
  unfold ckS; omega
def apOk (s : ByteArray) : Bool := decide (s.size ≤ 4000) && (!stB s 35 && decide ((slS s).size ≤ 4000))
def apS (s : ByteArray) : ByteArray := if apOk s = true then slS s else ⟨#[]⟩
theorem ap_no {s : ByteArray} (h : apOk s = false) : Ending.returned (.tuple #[.string ⟨#[]⟩, .bool false]) = .returned (.tuple #[.string (apS s), .bool (apOk s)]) := by simp [apS, h]
theorem ap_yes {s : ByteArray} (h : apOk s = true) : Ending.returned (.tuple #[.string (slS s), .bool true]) = .returned (.tuple #[.string (apS s), .bool (apOk s)]) := by simp [apS, h]

theorem checksum_small (s : ByteArray) (hs : s.size ≤ 4000) (w : World) : Calls Tryd.prog 44 #[.string s] w fun e w' => e = .returned (.tuple #[.int .i64 (ckS s : Int), .bool true]) ∧ w = w' := by
  have := checksum_any s (by omega) w
  rw [if_pos hs, decide_eq_true hs] at this
  exact this
theorem checksum_big (s : ByteArray) (hm : s.size ≤ 140737488351232) (hs : ¬ s.size ≤ 4000) (w : World) : Calls Tryd.prog 44 #[.string s] w fun e w' => e = .returned (.tuple #[.int .i64 0, .bool false]) ∧ w = w' := by
  have := checksum_any s (by omega) w
  rw [if_neg hs, decide_eq_false hs] at this
  exact this

set_option maxRecDepth 100000 in
set_option maxHeartbeats 4000000 in
theorem l1Seal_any (s : ByteArray) (hm : s.size ≤ 140737488351232) (w : World) : Calls Tryd.prog 43 #[.string s] w fun e w' => e = .returned (.string (slS s)) ∧ Below w.heap.size w w' := by
  have hl := ck_len s
  obtain ⟨c0, c1⟩ := ck_bd s
  go_enter Tryd.func43, Tryd.ntmps43
  go_wp2_with (first | (go_at_call 57; (with_reducible refine (l1Sum_any s (by omega) _).mono ?_); rintro e w2 ⟨rfl, rfl⟩) | (go_at_call 36; (with_reducible refine (l1Num_any _ (by omega) (by omega) _).mono ?_); rintro e w2 ⟨rfl, hb2⟩))
  go_ret
  exact ⟨rfl, hb2⟩

set_option maxRecDepth 100000 in
set_option maxHeartbeats 4000000 in
theorem specAppend_any (s : ByteArray) (hm : s.size ≤ 140737488351232) (w : World) : Calls Tryd.prog 17 #[.string s] w fun e w' => e = .returned (.tuple #[.string (apS s), .bool (apOk s)]) ∧ Below w.heap.size w w' := by
  by_cases h4 : s.size ≤ 4000
  · have e1 : decide ((s.size : Int) > 4000) = false := decide_eq_false (by omega)
    have e2 : (s.size : Int) ≤ 4000 := by omega
    cases hst : stB s 35
    · have HST := hide (fun w => Calls.bool_eq (l1Stands_any s 35 (by omega) w) hst)
      by_cases h5 : (slS s).size ≤ 4000
      · have e3 : decide (((slS s).size : Int) > 4000) = false := decide_eq_false (by omega)
        have e4 : ((slS s).size : Int) ≤ 4000 := by omega
        have HA := hide (ap_yes (s := s) (by simp [apOk, h4, hst, h5]))
        clear hst h4
        go_enter Tryd.func17, Tryd.ntmps17
        go_wp2_with (first | (go_at_call 42; (refine (HST.out _).mono ?_); rintro e w2 ⟨rfl, rfl⟩) | (go_at_call 43; (with_reducible refine (l1Seal_any s hm _).mono ?_); rintro e w2 ⟨rfl, hb2⟩))
        go_ret2
        exact ⟨HA.out, (by repeat (first | (with_reducible exact Below.refl _ _) | (with_reducible assumption) | (with_reducible refine below_go ?_ (by with_reducible assumption)) | (with_reducible refine below_new ?_ _) | ((with_reducible refine below_put ?_ ?_ _); rotate_left; (dsimp only; omega)) | (with_reducible refine Below.drew ?_) | (with_reducible refine below_dn ?_ _)))⟩
      · have e3 : decide (((slS s).size : Int) > 4000) = true := decide_eq_true (by omega)
        have e4 : 4000 < ((slS s).size : Int) := by omega
        have HA := hide (ap_no (s := s) (by simp [apOk, h4, hst, h5]))
        clear hst h4
        go_enter Tryd.func17, Tryd.ntmps17
        go_wp2_with (first | (go_at_call 42; (refine (HST.out _).mono ?_); rintro e w2 ⟨rfl, rfl⟩) | (go_at_call 43; (with_reducible refine (l1Seal_any s hm _).mono ?_); rintro e w2 ⟨rfl, hb2⟩))
        go_ret2
        exact ⟨HA.out, (by repeat (first | (with_reducible exact Below.refl _ _) | (with_reducible assumption) | (with_reducible refine below_go ?_ (by with_reducible assumption)) | (with_reducible refine below_new ?_ _) | ((with_reducible refine below_put ?_ ?_ _); rotate_left; (dsimp only; omega)) | (with_reducible refine Below.drew ?_) | (with_reducible refine below_dn ?_ _)))⟩
    · have HST := hide (fun w => Calls.bool_eq (l1Stands_any s 35 (by omega) w) hst)
      have HA := hide (ap_no (s := s) (by simp [apOk, hst]))
      clear hst h4
      go_enter Tryd.func17, Tryd.ntmps17
      go_wp2_with (go_at_call 42; (refine (HST.out _).mono ?_); rintro e w2 ⟨rfl, rfl⟩)
      go_ret2
      exact ⟨HA.out, (by repeat (first | (with_reducible exact Below.refl _ _) | (with_reducible assumption) | (with_reducible refine below_go ?_ (by with_reducible assumption)) | (with_reducible refine below_new ?_ _) | ((with_reducible refine below_put ?_ ?_ _); rotate_left; (dsimp only; omega)) | (with_reducible refine Below.drew ?_) | (with_reducible refine below_dn ?_ _)))⟩
  · have e1 : decide ((s.size : Int) > 4000) = true := decide_eq_true (by omega)
    have e2 : 4000 < (s.size : Int) := by omega
    have HA := hide (ap_no (s := s) (by simp [apOk, h4]))
    clear h4
    go_enter Tryd.func17, Tryd.ntmps17
    go_wp2
    go_ret2
    exact ⟨HA.out, (by repeat (first | (with_reducible exact Below.refl _ _) | (with_reducible assumption) | (with_reducible refine below_go ?_ (by with_reducible assumption)) | (with_reducible refine below_new ?_ _) | ((with_reducible refine below_put ?_ ?_ _); rotate_left; (dsimp only; omega)) | (with_reducible refine Below.drew ?_) | (with_reducible refine below_dn ?_ _)))⟩

end Go.Proofs.YtbgfdeicjaencaaDoor
