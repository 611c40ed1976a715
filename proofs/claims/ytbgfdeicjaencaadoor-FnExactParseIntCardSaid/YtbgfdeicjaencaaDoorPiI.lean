/-
  Contracts: ParseInt, the program's.
-/
import Derived.Test.YtbgfdeicjaencaaDoorPiWords
namespace Go.Proofs.YtbgfdeicjaencaaDoor
open Go.RowKit

theorem atoi_ok (s : ByteArray) (hs : s.size ≤ 1048576) (v : Int) (h : Lib.atoiAll s.data.toList = .ok v) (w : World) : Calls Tryd.prog 53 #[.string s] w fun e w' => e = .returned (.tuple #[.int .i64 v, .nilIface]) ∧ Below w.heap.size w w' := by
  refine (Tryd.strconv_Atoi_ok s (by omega) v h w).mono ?_
  rintro e w' ⟨rfl, hw⟩
  refine ⟨rfl, ?_⟩
  rcases hw with rfl | ⟨t, rfl⟩
  · exact Below.refl _ _
  · exact Lib.bytesWorld_below _ _ _
theorem atoi_err (s : ByteArray) (hs : s.size ≤ 1048576) (hn : ∀ u, Lib.atoiAll s.data.toList ≠ .ok u) (w : World) (hd : ErW w) : Calls Tryd.prog 53 #[.string s] w fun e w' =>
    ∃ v N, e = .returned (.tuple #[.int .i64 v, .iface 82 (.pointer (some ⟨N, 0, none⟩))]) ∧ Below w.heap.size w w' := by
  obtain ⟨⟨t, p, h1⟩, ⟨u, q, h2⟩⟩ := hd
  cases h : Lib.atoiAll s.data.toList with
  | ok v => exact absurd h (hn v)
  | «syntax» =>
    refine (Tryd.strconv_Atoi_syntax s (by omega) h _ w h1 (.inr ⟨_, _, rfl⟩)).mono ?_
    rintro e w' ⟨N, rfl, _, _, hb⟩
    exact ⟨_, N, rfl, hb⟩
  | range =>
    refine (Tryd.strconv_Atoi_range s (by omega) h _ w h2 (.inr ⟨_, _, rfl⟩)).mono ?_
    rintro e w' ⟨N, rfl, _, _, hb⟩
    exact ⟨_, N, rfl, hb⟩
theorem itoa_below (v : Int) (h0 : -9223372036854775808 ≤ v) (h1 : v ≤ 9223372036854775807) (w : World) (ht : TabB w) : Calls Tryd.prog 38 #[.int .i64 v] w fun e w' => e = .returned (.string (mkS (Lib.itoa v))) ∧ Below w.heap.size w w' := by
  refine (Tryd.strconv_Itoa v h0 h1 w ht.here).mono ?_
  rintro e w' ⟨rfl, k, os, rfl⟩
  exact ⟨rfl, Lib.below_grow _ _ (Nat.le_refl _) _ _⟩

set_option maxRecDepth 100000 in
set_option maxHeartbeats 8000000 in
theorem implParseInt_any (s : ByteArray) (hs : s.size ≤ 1048576) (n : Int) (ok : Bool) (hP : PIs s n ok) (w : World) (hd : PiD w) : Calls Tryd.prog 30 #[.string s] w fun e w' => e = .returned (.tuple #[.int .i64 n, .bool ok]) ∧ Below w.heap.size w w' := by
  by_cases hv : ∃ v, Lib.atoiAll s.data.toList = .ok v
  · obtain ⟨v, hv⟩ := hv
    obtain ⟨b0, b1⟩ := Lib.atoiAll_bounds hv
    have HA := hide (fun w => atoi_ok s hs v hv w)
    have HT : Hid (TabB w) := hide hd.1
    have HE : Hid (ErW w) := hide hd.2
    have HI := hide (fun w h => itoa_below v b0 b1 w h)
    have hok : ok = true → n = v := fun h => by
      subst h
      have := pis_atoi hP
      rw [hv] at this
      exact (Lib.NumEnd.ok.inj this).symm
    by_cases he : mkS (Lib.itoa v) = s
    · rw [he] at HI
      by_cases hr : -999999 ≤ v ∧ v ≤ 999999
      · obtain ⟨rfl, rfl⟩ := pis_own hP hr he
        obtain ⟨r1, r2⟩ := hr
        clear hP hok hv he hd
        go_enter Tryd.func30, Tryd.ntmps30
        go_wp2_with (first | (go_at_call 53; (with_reducible refine (HA.out _).mono ?_); rintro e w2 ⟨rfl, hb2⟩) | (go_at_call 38; (with_reducible refine (HI.out _ (HT.out.call hb2)).mono ?_); rintro e w3 ⟨rfl, hb3⟩) | (go_at_call 37; go_in))
        all_goals
          go_ret2
          exact ⟨rfl, below_go hb2 hb3⟩
      · have hn : ok = false := by
          cases h : ok
          · rfl
          · subst h
            obtain ⟨h1, _⟩ := hP.1 rfl
            rw [hok rfl] at h1
            exact absurd h1 hr
        have HR := hide (pis_not hP hn)
        have hr2 : v < -999999 ∨ 999999 < v := by omega
        clear hP hok hv he hd hr
        rcases hr2 with hr | hr
        · have r1 : ¬ -999999 ≤ v := by omega
          have e1 : decide (-999999 ≤ v) = false := decide_eq_false r1
          go_enter Tryd.func30, Tryd.ntmps30
          go_wp2_with (first | (go_at_call 53; (with_reducible refine (HA.out _).mono ?_); rintro e w2 ⟨rfl, hb2⟩) | (go_at_call 38; (with_reducible refine (HI.out _ (HT.out.call hb2)).mono ?_); rintro e w3 ⟨rfl, hb3⟩) | (go_at_call 37; go_in))
          all_goals
            go_ret2
            exact ⟨HR.out, below_go hb2 hb3⟩
        · have r1 : -999999 ≤ v := by omega
          have r2 : ¬ v ≤ 999999 := by omega
          have e1 : decide (-999999 ≤ v) = true := decide_eq_true r1
          have e2 : decide (v ≤ 999999) = false := decide_eq_false r2
          go_enter Tryd.func30, Tryd.ntmps30
          go_wp2_with (first | (go_at_call 53; (with_reducible refine (HA.out _).mono ?_); rintro e w2 ⟨rfl, hb2⟩) | (go_at_call 38; (with_reducible refine (HI.out _ (HT.out.call hb2)).mono ?_); rintro e w3 ⟨rfl, hb3⟩) | (go_at_call 37; go_in))
          all_goals
            go_ret2
            exact ⟨HR.out, below_go hb2 hb3⟩
    · have hn : ok = false := by
        cases h : ok
        · rfl
        · subst h
          obtain ⟨_, h1⟩ := hP.1 rfl
          rw [hok rfl] at h1
          exact absurd h1.symm he
      have HR := hide (pis_not hP hn)
      generalize mkS (Lib.itoa v) = X at *
      have hne2 : (X.toList == s.toList) = false := by
        simp only [beq_eq_false_iff_ne, ne_eq]
        intro h
        rw [ByteArray.toList_eq, ByteArray.toList_eq] at h
        exact he (by apply ByteArray.ext; exact Array.toList_inj.1 h)
      clear hP hok hv he hd
      go_enter Tryd.func30, Tryd.ntmps30
      go_wp2_with (first | (go_at_call 53; (with_reducible refine (HA.out _).mono ?_); rintro e w2 ⟨rfl, hb2⟩) | (go_at_call 38; (with_reducible refine (HI.out _ (HT.out.call hb2)).mono ?_); rintro e w3 ⟨rfl, hb3⟩) | (go_at_call 37; go_in))
      all_goals
        go_ret2
        exact ⟨HR.out, below_go hb2 hb3⟩
  · have hv2 : ∀ u, Lib.atoiAll s.data.toList ≠ .ok u := fun u hu => hv ⟨u, hu⟩
    have hn : ok = false := by
      cases h : ok
      · rfl
      · subst h; exact absurd (pis_atoi hP) (hv2 n)
    have HR := hide (pis_not hP hn)
    have HA := hide (fun w h => atoi_err s hs hv2 w h)
    have HT : Hid (TabB w) := hide hd.1
    have HE : Hid (ErW w) := hide hd.2
    clear hP hv hv2 hd
    go_enter Tryd.func30, Tryd.ntmps30
    go_wp2_with (go_at_call 53; (with_reducible refine (HA.out _ HE.out).mono ?_); rintro e w2 ⟨v, N, rfl, hb2⟩)
    all_goals
      go_ret2
      exact ⟨HR.out, hb2⟩

end Go.Proofs.YtbgfdeicjaencaaDoor
