/-
  Contract: AppendChecksum, the program's.
-/
import Derived.Test.YtbgfdeicjaencaaDoorApp
namespace Go.Proofs.YtbgfdeicjaencaaDoor
open Go.RowKit

theorem itoa_any (n : Int) (h0 : -9223372036854775808 ≤ n) (h1 : n ≤ 9223372036854775807) (w : World) (ht : TabB w) : Calls Tryd.prog 38 #[.int .i64 n] w fun e w' => e = .returned (.string (mkS (Lib.itoa n))) ∧ Below w.heap.size w w' :=
  (Tryd.strconv_Itoa n h0 h1 _ ht.here).mono fun e w' ⟨he, k, os, hw⟩ => ⟨he, hw ▸ Lib.below_grow _ _ (Nat.le_refl _) _ _⟩

set_option maxRecDepth 100000 in
set_option maxHeartbeats 4000000 in
theorem implAppend_any (s : ByteArray) (hm : s.size ≤ 140737488351232) (w : World) (ht : TabB w) : Calls Tryd.prog 18 #[.string s] w fun e w' => e = .returned (.tuple #[.string (apS s), .bool (apOk s)]) ∧ Below w.heap.size w w' := by
  have HT := hide ht
  clear ht
  by_cases h4 : s.size ≤ 4000
  · have HC := hide (fun w => checksum_small s h4 w)
    have hl := ck_len s
    obtain ⟨c0, c1⟩ := ck_bd s
    have HI := hide (itoa_any (ckS s : Int) (by omega) (by omega) w HT.out)
    have e2 : (s.size : Int) ≤ 4000 := by omega
    cases hst : stB s 35
    · have HST := hide (fun w => Calls.bool_eq (contains_st s 35 w) hst)
      by_cases h5 : (slS s).size ≤ 4000
      · have HA := hide (ap_yes (s := s) (by simp [apOk, h4, hst, h5]))
        have e5 : ((s ++ ⟨#[35]⟩) ++ mkS (Lib.itoa (ckS s : Int))).size ≤ 4000 := h5
        simp only [ByteArray.size_append] at e5
        have e6 : (⟨#[35]⟩ : ByteArray).size = 1 := rfl
        rw [e6] at e5
        clear hst h4 h5 e6
        go_enter Tryd.func18, Tryd.ntmps18
        go_wp2_with (first | (go_at_call 44; (refine (HC.out _).mono ?_); rintro e w2 ⟨rfl, rfl⟩) | (go_at_call 38; (refine HI.out.mono ?_); rintro e w2 ⟨rfl, hb2⟩) | (go_at_call 45; (refine (HST.out _).mono ?_); rintro e w2 ⟨rfl, rfl⟩))
        go_ret2
        exact ⟨HA.out, hb2⟩
      · have HA := hide (ap_no (s := s) (by simp [apOk, h4, hst, h5]))
        have e5 : 4000 < ((s ++ ⟨#[35]⟩) ++ mkS (Lib.itoa (ckS s : Int))).size := by have : ¬ ((s ++ ⟨#[35]⟩) ++ mkS (Lib.itoa (ckS s : Int))).size ≤ 4000 := h5; omega
        simp only [ByteArray.size_append] at e5
        have e6 : (⟨#[35]⟩ : ByteArray).size = 1 := rfl
        rw [e6] at e5
        clear hst h4 h5 e6
        go_enter Tryd.func18, Tryd.ntmps18
        go_wp2_with (first | (go_at_call 44; (refine (HC.out _).mono ?_); rintro e w2 ⟨rfl, rfl⟩) | (go_at_call 38; (refine HI.out.mono ?_); rintro e w2 ⟨rfl, hb2⟩) | (go_at_call 45; (refine (HST.out _).mono ?_); rintro e w2 ⟨rfl, rfl⟩))
        go_ret2
        exact ⟨HA.out, hb2⟩
    · have HST := hide (fun w => Calls.bool_eq (contains_st s 35 w) hst)
      have HA := hide (ap_no (s := s) (by simp [apOk, hst]))
      clear hst h4
      go_enter Tryd.func18, Tryd.ntmps18
      go_wp2_with (first | (go_at_call 44; (refine (HC.out _).mono ?_); rintro e w2 ⟨rfl, rfl⟩) | (go_at_call 38; (refine HI.out.mono ?_); rintro e w2 ⟨rfl, hb2⟩) | (go_at_call 45; (refine (HST.out _).mono ?_); rintro e w2 ⟨rfl, rfl⟩))
      go_ret2
      exact ⟨HA.out, hb2⟩
  · have HC := hide (fun w => checksum_big s hm h4 w)
    have HI := hide (itoa_any 0 (by omega) (by omega) w HT.out)
    have hl : (mkS (Lib.itoa 0)).size ≤ 30 := by
      have := Lib.itoa_length_le 0 (by omega) (by omega)
      rw [mkS_size]; omega
    have HA := hide (ap_no (s := s) (by simp [apOk, h4]))
    clear h4
    go_enter Tryd.func18, Tryd.ntmps18
    go_wp2_with (first | (go_at_call 44; (refine (HC.out _).mono ?_); rintro e w2 ⟨rfl, rfl⟩) | (go_at_call 38; (refine HI.out.mono ?_); rintro e w2 ⟨rfl, hb2⟩))
    go_ret2
    exact ⟨HA.out, hb2⟩

end Go.Proofs.YtbgfdeicjaencaaDoor
