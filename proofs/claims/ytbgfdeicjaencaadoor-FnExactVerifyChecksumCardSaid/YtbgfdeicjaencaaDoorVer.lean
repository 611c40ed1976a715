/-
  Contract: VerifyChecksum, the program's.
-/
import Derived.Test.YtbgfdeicjaencaaDoorVerW
namespace Go.Proofs.YtbgfdeicjaencaaDoor
open Go.RowKit

theorem vf_no {s : ByteArray} (h : vfOk s = false) : Ending.returned (.tuple #[.string ⟨#[]⟩, .bool false]) = .returned (.tuple #[.string (vfS s), .bool (vfOk s)]) := by simp [vfS, h]
theorem vf_yes {s : ByteArray} (h : vfOk s = true) : Ending.returned (.tuple #[.string (hdS s), .bool true]) = .returned (.tuple #[.string (vfS s), .bool (vfOk s)]) := by simp [vfS, h]
theorem hdS_size (s : ByteArray) : (hdS s).size = (hdL s.data.toList).length := by simp [hdS, mkS_size]
theorem mkS_data (s : ByteArray) : mkS s.data.toList = s := by
  apply ByteArray.ext
  simp [mkS]
theorem slS_size (s : ByteArray) : (slS s).size = s.size + 1 + (mkS (Lib.itoa (ckS s : Int))).size := by
  unfold slS
  simp only [ByteArray.size_append]
  rfl
theorem hd_stB (s : ByteArray) : stB (hdS s) 35 = false := by
  unfold stB hdS mkS
  simpa using hdL_not s.data.toList
/-- What is sealed again is accepted just where it was sealed. -/
theorem ap_hd {s : ByteArray} (h : vfOk s = true) : apOk (hdS s) = true ∧ slS (hdS s) = s := by
  simp only [vfOk, Bool.and_eq_true, decide_eq_true_eq] at h
  obtain ⟨h1, h2⟩ := h
  have h3 := slS_size (hdS s)
  rw [h2] at h3
  refine ⟨?_, h2⟩
  simp only [apOk, Bool.and_eq_true, decide_eq_true_eq, Bool.not_eq_true', hd_stB, true_and]
  exact ⟨by omega, by rw [h2]; exact h1⟩

theorem hd_extract (s : ByteArray) {k : Nat} (h : hdL s.data.toList = s.data.toList.take k) : s.extract 0 k = hdS s := by
  apply ByteArray.ext
  unfold hdS mkS
  rw [h, ByteArray.data_extract, ← Array.toList_inj]
  simp
theorem ver_ap (s : ByteArray) {k : Nat} (h : hdL s.data.toList = s.data.toList.take k) (hm : s.size ≤ 140737488351232) (hk : k < s.size) (w : World) (ht : TabB w) :
    Calls Tryd.prog 18 #[.string (s.extract 0 k)] w fun e w' => e = .returned (.tuple #[.string (apS (hdS s)), .bool (apOk (hdS s))]) ∧ Below w.heap.size w w' := by
  rw [hd_extract s h]
  refine implAppend_any (hdS s) ?_ w ht
  rw [hdS_size, h]
  simp; omega

set_option maxRecDepth 100000 in
set_option maxHeartbeats 4000000 in
theorem implVerify_any (s : ByteArray) (hm : s.size ≤ 140737488351232) (w : World) (ht : TabB w) : Calls Tryd.prog 20 #[.string s] w fun e w' => e = .returned (.tuple #[.string (vfS s), .bool (vfOk s)]) ∧ Below w.heap.size w w' := by
  have HT := hide ht
  clear ht
  have HIX : Hid (∀ w : World, Calls Tryd.prog 46 #[.string s, .int .u8 35] w fun e w' => e = .returned (.int .i64 (Lib.indexByte s.data.toList 35)) ∧ w = w') := fun w => (Tryd.strings_IndexByte s 35 w).mono fun e w' ⟨he, hw⟩ => ⟨he, hw.symm⟩
  rcases idx_hd s.data.toList with ⟨hi, hd⟩ | ⟨hi, hlt, hd⟩
  · have HA := hide (vf_no (s := s) (by
      have h1 := slS_size (hdS s)
      have h2 : hdS s = s := by unfold hdS; rw [hd, mkS_data]
      rw [h2] at h1
      have h3 : slS (hdS s) ≠ s := by
        intro h; rw [h2] at h; rw [h] at h1; omega
      simp [vfOk, h3]))
    rw [hi] at HIX
    clear hi hd
    go_enter Tryd.func20, Tryd.ntmps20
    go_wp2_with (go_at_call 46; (refine (HIX.out _).mono ?_); rintro e w2 ⟨rfl, rfl⟩)
    go_ret2
    exact ⟨HA.out, (by repeat (first | (with_reducible exact Below.refl _ _) | (with_reducible assumption) | (with_reducible refine below_go ?_ (by with_reducible assumption)) | (with_reducible refine below_new ?_ _) | ((with_reducible refine below_put ?_ ?_ _); rotate_left; (dsimp only; omega)) | (with_reducible refine Below.drew ?_) | (with_reducible refine below_dn ?_ _)))⟩
  · rw [hi] at HIX
    generalize hk : (hdL s.data.toList).length = k at *
    have hks : k < s.size := by simpa using hlt
    have hki : (k : Int) < s.size := by omega
    have hk0 : (0 : Int) ≤ k := by omega
    by_cases h4 : s.size ≤ 4000
    · have e2 : (s.size : Int) ≤ 4000 := by omega
      have e1 : decide ((s.size : Int) > 4000) = false := decide_eq_false (by omega)
      have HAP := hide (ver_ap s hd hm hks w HT.out)
      have HEX := hide (hd_extract s hd)
      cases hv : vfOk s
      · have HA := hide (vf_no hv)
        rw [hv] at HA
        cases ha : apOk (hdS s)
        · have e5 : apS (hdS s) = ⟨#[]⟩ := by simp [apS, ha]
          rw [e5, ha] at HAP
          clear hi hd hk hlt ha e5 hv
          go_enter Tryd.func20, Tryd.ntmps20
          go_wp2_with (first | (go_at_call 46; (refine (HIX.out _).mono ?_); rintro e w2 ⟨rfl, rfl⟩) | (go_at_call 18; (refine HAP.out.mono ?_); rintro e w2 ⟨rfl, hb2⟩))
          go_ret2
          exact ⟨HA.out, hb2⟩
        · have e5 : apS (hdS s) = slS (hdS s) := by simp [apS, ha]
          have hne : slS (hdS s) ≠ s := by intro h; simp [vfOk, h4, h] at hv
          rw [e5, ha] at HAP
          generalize slS (hdS s) = X at *
          have hne2 : (X.toList == s.toList) = false := by
            simp only [beq_eq_false_iff_ne, ne_eq]
            intro h
            rw [ByteArray.toList_eq, ByteArray.toList_eq] at h
            exact hne (by rw [← mkS_data X, h, mkS_data])
          clear hne
          clear hi hd hk hlt ha e5 hv
          go_enter Tryd.func20, Tryd.ntmps20
          go_wp2_with (first | (go_at_call 46; (refine (HIX.out _).mono ?_); rintro e w2 ⟨rfl, rfl⟩) | (go_at_call 18; (refine HAP.out.mono ?_); rintro e w2 ⟨rfl, hb2⟩))
          go_ret2
          exact ⟨HA.out, hb2⟩
      · obtain ⟨ha, hs⟩ := ap_hd hv
        have e5 : apS (hdS s) = s := by simp [apS, ha, hs]
        rw [e5, ha] at HAP
        have HA := hide (vf_yes hv)
        rw [hv] at HA
        clear hi hd hk hlt ha hs e5 hv
        go_enter Tryd.func20, Tryd.ntmps20
        go_wp2_with (first | (go_at_call 46; (refine (HIX.out _).mono ?_); rintro e w2 ⟨rfl, rfl⟩) | (go_at_call 18; (refine HAP.out.mono ?_); rintro e w2 ⟨rfl, hb2⟩))
        go_ret2
        exact ⟨by rw [HEX.out]; exact HA.out, hb2⟩
    · have e2 : 4000 < (s.size : Int) := by omega
      have e1 : decide ((s.size : Int) > 4000) = true := decide_eq_true (by omega)
      have HA := hide (vf_no (s := s) (by simp [vfOk, h4]))
      clear hi hd hk hlt h4
      go_enter Tryd.func20, Tryd.ntmps20
      go_wp2_with (go_at_call 46; (refine (HIX.out _).mono ?_); rintro e w2 ⟨rfl, rfl⟩)
      go_ret2
      exact ⟨HA.out, (by repeat (first | (with_reducible exact Below.refl _ _) | (with_reducible assumption) | (with_reducible refine below_go ?_ (by with_reducible assumption)) | (with_reducible refine below_new ?_ _) | ((with_reducible refine below_put ?_ ?_ _); rotate_left; (dsimp only; omega)) | (with_reducible refine Below.drew ?_) | (with_reducible refine below_dn ?_ _)))⟩

end Go.Proofs.YtbgfdeicjaencaaDoor
