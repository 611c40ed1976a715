/-
  Contracts: ParseInt, the reference's.
-/
import Derived.Test.YtbgfdeicjaencaaDoorPiWords
namespace Go.Proofs.YtbgfdeicjaencaaDoor
open Go.RowKit

theorem data_at (s : ByteArray) (k : Nat) (h : k < s.size) : s.data.toList.getD k 0 = s[k] := by
  have h2 : k < s.data.toList.length := by simpa using h
  rw [List.getD, List.getElem?_eq_getElem h2]; rfl
def vlB (s : ByteArray) (k : Nat) : Nat := vlL s.data.toList k
def AllD (s : ByteArray) (k : Nat) : Prop := ∀ j, j < k → dgO (s.data.toList.getD j 0)
/-- What an accepted text would be like. -/
theorem pis_no {s : ByteArray} {n : Int} {ok : Bool} (h : PIs s n ok) (hn : s = mkS (Lib.itoa n) → 1 ≤ (stS s).size → (stS s).size ≤ 6 → (∀ k, k < (stS s).size → dgO ((stS s).data.toList.getD k 0)) → vlS s = n → False) : ok = false := by
  cases ok
  · rfl
  · obtain ⟨_, h1, h2, h3, h4, h5⟩ := pis_true h
    exact (hn h1 h2 h3 h4 h5).elim

set_option maxRecDepth 100000 in
set_option maxHeartbeats 16000000 in
theorem l1Read_any (s : ByteArray) (hs : s.size ≤ 1048576) (n : Int) (ok : Bool) (hP : PIs s n ok) (w : World) : Calls Tryd.prog 52 #[.string s] w fun e w' => e = .returned (.tuple #[.int .i64 n, .bool ok]) ∧ Below w.heap.size w w' := by
  have hsi : (s.size : Int) ≤ 1048576 := by omega
  cases hg : ngO s
  · have HT : Hid (s = stS s) := hide (by unfold stS; rw [if_neg (by rw [hg]; exact Bool.false_ne_true)])
    have HG0 := hide hg
    have hg2 : (s.size ≤ 1) ∨ (∃ h : 0 < s.size, 1 < s.size ∧ s[0] ≠ 45) := by
      by_cases h1 : 1 < s.size
      · refine .inr ⟨by omega, h1, fun h => ?_⟩
        unfold ngO at hg
        rw [data_at s 0 (by omega), h] at hg
        simp [h1] at hg
      · exact .inl (by omega)
    clear hg
    rcases hg2 with hg2 | ⟨h00, hg2, hg3⟩
    · have g1 : ¬ (1 : Int) < s.size := by omega
      go_enter Tryd.func52, Tryd.ntmps52
      go_upto_region 4 with (fail)
      clear g1
      rcases (by omega : s.size = 0 ∨ 6 < s.size ∨ (1 ≤ s.size ∧ s.size ≤ 6)) with hz | hz | ⟨hz1, hz6⟩
      · have HR := hide (pis_not hP (pis_no hP fun _ h1 _ _ _ => by rw [← HT.out] at h1; omega))
        have r1 : ¬ (1 : Int) ≤ s.size := by omega
        have e1 : decide ((1 : Int) ≤ s.size) = false := decide_eq_false r1
        clear hP
        go_wp2_with (go_at_call 35; go_in)
        go_ret2
        exact ⟨HR.out, Below.refl _ _⟩
      · have HR := hide (pis_not hP (pis_no hP fun _ _ h2 _ _ => by rw [← HT.out] at h2; omega))
        have r1 : (1 : Int) ≤ s.size := by omega
        have r2 : ¬ (s.size : Int) ≤ 6 := by omega
        have e1 : decide ((1 : Int) ≤ s.size) = true := decide_eq_true r1
        have e2 : decide ((s.size : Int) ≤ 6) = false := decide_eq_false r2
        clear hP
        go_wp2_with (go_at_call 35; go_in)
        go_ret2
        exact ⟨HR.out, Below.refl _ _⟩
      · have r1 : (1 : Int) ≤ s.size := by omega
        have r2 : (s.size : Int) ≤ 6 := by omega
        have e1 : decide ((1 : Int) ≤ s.size) = true := decide_eq_true r1
        have e2 : decide ((s.size : Int) ≤ 6) = true := decide_eq_true r2
        have HP := hide hP
        clear hP
        go_upto_region 8 with (go_at_call 35; go_in)
        clear r1 e1 e2
        go_loopw [5, 6] (fun n i wr => ∃ k : Nat, k ≤ s.size ∧ i = .int .i64 k ∧ n = .int .i64 (vlB s k : Int) ∧ AllD s k ∧ Below w.heap.size w wr) (fun _ i _ => s.size - (intOf i).toNat)
        case atStart => exact ⟨0, Nat.zero_le _, rfl, rfl, (fun j hj => absurd hj (Nat.not_lt_zero _)), Below.refl _ _⟩
        case round =>
          obtain ⟨k, hk, rfl, rfl, hall, hB⟩ := hrel
          have hvl : vlB s k < 10 ^ k := vlL_lt s.data.toList k hall
          have HALL := hide hall
          clear hall
          have h10 : (10 : Nat) ^ k ≤ 10 ^ 6 := Nat.pow_le_pow_right (by omega) (by omega)
          have hv6 : vlB s k ≤ 999999 := by
            have e6 : (10 : Nat) ^ 6 = 1000000 := by decide
            omega
          by_cases hlt : k < s.size
          · have a1 : (0 : Int) ≤ k := by omega
            have a2 : (k : Int) < s.size := by omega
            have HG := hide (data_at s k hlt)
            have HVS : Hid (vlB s (k + 1) = 10 * vlB s k + (s[k].toNat - 48)) := hide (by rw [← HG.out]; rfl)
            rcases (by omega : s[k].toNat < 48 ∨ 57 < s[k].toNat ∨ (48 ≤ s[k].toNat ∧ s[k].toNat ≤ 57)) with hc | hc | ⟨hc1, hc2⟩
            · have HR := hide (pis_not HP.out (pis_no HP.out fun _ _ _ h4 _ => by
                rw [← HT.out] at h4
                have := h4 k hlt
                rw [HG.out] at this
                unfold dgO at this; omega))
              have q1 : (s[k].toNat : Int) < 48 := by omega
              clear hc h10 hvl
              go_wp2
              go_ret2
              exact ⟨HR.out, hB⟩
            · have HR := hide (pis_not HP.out (pis_no HP.out fun _ _ _ h4 _ => by
                rw [← HT.out] at h4
                have := h4 k hlt
                rw [HG.out] at this
                unfold dgO at this; omega))
              have q1 : ¬ (s[k].toNat : Int) < 48 := by omega
              have q2 : 57 < (s[k].toNat : Int) := by omega
              clear hc h10 hvl
              go_wp2
              go_ret2
              exact ⟨HR.out, hB⟩
            · have HD : Hid (dgO (s.data.toList.getD k 0)) := hide (by rw [HG.out]; exact ⟨hc1, hc2⟩)
              have q1 : (48 : Int) ≤ (s[k].toNat : Int) := by omega
              have q2 : (s[k].toNat : Int) ≤ 57 := by omega
              generalize hV : vlB s k = V at *
              generalize hC : s[k].toNat = C at *
              have hc48 : Hid (((10 * V + (C - 48) : Nat) : Int) = 10 * (V : Int) + ((C : Int) - 48)) := hide (by omega)
              clear h10 hvl hV
              go_wp2
              go_roundw
              case rel => exact ⟨_, _, _, _, _, _, _, _, _, _, _, _, _, _, _, _, _, _, _, _, _, _, _, _, _, _, _, _, ⟨k + 1, by omega, by go_num, by rw [HVS.out, hc48.out], fun j hj => by
                rcases (by omega : j < k ∨ j = k) with h | rfl
                · exact HALL.out j h
                · exact HD.out, hB⟩, rfl⟩
              case measure => simp [intOf]; omega
          · obtain rfl : k = s.size := by omega
            have HVV : Hid (vlS s = (vlB s s.size : Int)) := hide (by unfold vlS; rw [if_neg (by rw [HG0.out]; exact Bool.false_ne_true), ← HT.out]; try rfl)
            have hlen : ¬ (s.size : Int) < s.size := by omega
            have HNUM := hide (fun w => l1Num_any ((vlB s s.size : Int)) (by omega) (by omega) w)
            have hv0 : -999999 ≤ ((vlB s s.size : Int)) ∧ ((vlB s s.size : Int)) ≤ 999999 := by omega
            have HV0 := hide hv0
            clear h10 hvl hv0
            by_cases he : mkS (Lib.itoa ((vlB s s.size : Int))) = s
            · obtain ⟨hok, hn⟩ := pis_own HP.out HV0.out he
              rw [he] at HNUM
              have HN := hide hn
              subst hok
              clear he hn
              generalize vlB s s.size = V at *
              go_wp2_with (go_at_call 36; (with_reducible refine (HNUM.out _).mono ?_); rintro e w2 ⟨rfl, hb2⟩)
              go_ret2
              exact ⟨congrArg (fun v => Ending.returned (.tuple #[.int .i64 v, .bool true])) HN.out.symm, below_go hB hb2⟩
            · have HR := hide (pis_not HP.out (pis_no HP.out fun h0 _ _ _ h5 => by
                rw [HVV.out] at h5
                rw [h5] at he
                exact he h0.symm))
              generalize hX : mkS (Lib.itoa ((vlB s s.size : Int))) = X at *
              have hne2 : (X.toList == s.toList) = false := by
                simp only [beq_eq_false_iff_ne, ne_eq]
                intro h
                rw [ByteArray.toList_eq, ByteArray.toList_eq] at h
                exact he (by apply ByteArray.ext; exact Array.toList_inj.1 h)
              clear he hX
              generalize vlB s s.size = V at *
              go_wp2_with (go_at_call 36; (with_reducible refine (HNUM.out _).mono ?_); rintro e w2 ⟨rfl, hb2⟩)
              go_ret2
              exact ⟨HR.out, below_go hB hb2⟩
    · have g1 : (1 : Int) < s.size := by omega
      have g2 : ((s[0].toNat : Int) == 45) = false := by
        simp only [beq_eq_false_iff_ne, ne_eq]
        intro h
        exact hg3 (UInt8.toNat_inj.1 (by show _ = 45; omega))
      clear hg3
      go_enter Tryd.func52, Tryd.ntmps52
      go_upto_region 4 with (fail)
      clear g1 g2
      rcases (by omega : s.size = 0 ∨ 6 < s.size ∨ (1 ≤ s.size ∧ s.size ≤ 6)) with hz | hz | ⟨hz1, hz6⟩
      · have HR := hide (pis_not hP (pis_no hP fun _ h1 _ _ _ => by rw [← HT.out] at h1; omega))
        have r1 : ¬ (1 : Int) ≤ s.size := by omega
        have e1 : decide ((1 : Int) ≤ s.size) = false := decide_eq_false r1
        clear hP
        go_wp2_with (go_at_call 35; go_in)
        go_ret2
        exact ⟨HR.out, Below.refl _ _⟩
      · have HR := hide (pis_not hP (pis_no hP fun _ _ h2 _ _ => by rw [← HT.out] at h2; omega))
        have r1 : (1 : Int) ≤ s.size := by omega
        have r2 : ¬ (s.size : Int) ≤ 6 := by omega
        have e1 : decide ((1 : Int) ≤ s.size) = true := decide_eq_true r1
        have e2 : decide ((s.size : Int) ≤ 6) = false := decide_eq_false r2
        clear hP
        go_wp2_with (go_at_call 35; go_in)
        go_ret2
        exact ⟨HR.out, Below.refl _ _⟩
      · have r1 : (1 : Int) ≤ s.size := by omega
        have r2 : (s.size : Int) ≤ 6 := by omega
        have e1 : decide ((1 : Int) ≤ s.size) = true := decide_eq_true r1
        have e2 : decide ((s.size : Int) ≤ 6) = true := decide_eq_true r2
        have HP := hide hP
        clear hP
        go_upto_region 8 with (go_at_call 35; go_in)
        clear r1 e1 e2
        go_loopw [5, 6] (fun n i wr => ∃ k : Nat, k ≤ s.size ∧ i = .int .i64 k ∧ n = .int .i64 (vlB s k : Int) ∧ AllD s k ∧ Below w.heap.size w wr) (fun _ i _ => s.size - (intOf i).toNat)
        case atStart => exact ⟨0, Nat.zero_le _, rfl, rfl, (fun j hj => absurd hj (Nat.not_lt_zero _)), Below.refl _ _⟩
        case round =>
          obtain ⟨k, hk, rfl, rfl, hall, hB⟩ := hrel
          have hvl : vlB s k < 10 ^ k := vlL_lt s.data.toList k hall
          have HALL := hide hall
          clear hall
          have h10 : (10 : Nat) ^ k ≤ 10 ^ 6 := Nat.pow_le_pow_right (by omega) (by omega)
          have hv6 : vlB s k ≤ 999999 := by
            have e6 : (10 : Nat) ^ 6 = 1000000 := by decide
            omega
          by_cases hlt : k < s.size
          · have a1 : (0 : Int) ≤ k := by omega
            have a2 : (k : Int) < s.size := by omega
            have HG := hide (data_at s k hlt)
            have HVS : Hid (vlB s (k + 1) = 10 * vlB s k + (s[k].toNat - 48)) := hide (by rw [← HG.out]; rfl)
            rcases (by omega : s[k].toNat < 48 ∨ 57 < s[k].toNat ∨ (48 ≤ s[k].toNat ∧ s[k].toNat ≤ 57)) with hc | hc | ⟨hc1, hc2⟩
            · have HR := hide (pis_not HP.out (pis_no HP.out fun _ _ _ h4 _ => by
                rw [← HT.out] at h4
                have := h4 k hlt
                rw [HG.out] at this
                unfold dgO at this; omega))
              have q1 : (s[k].toNat : Int) < 48 := by omega
              clear hc h10 hvl
              go_wp2
              go_ret2
              exact ⟨HR.out, hB⟩
            · have HR := hide (pis_not HP.out (pis_no HP.out fun _ _ _ h4 _ => by
                rw [← HT.out] at h4
                have := h4 k hlt
                rw [HG.out] at this
                unfold dgO at this; omega))
              have q1 : ¬ (s[k].toNat : Int) < 48 := by omega
              have q2 : 57 < (s[k].toNat : Int) := by omega
              clear hc h10 hvl
              go_wp2
              go_ret2
              exact ⟨HR.out, hB⟩
            · have HD : Hid (dgO (s.data.toList.getD k 0)) := hide (by rw [HG.out]; exact ⟨hc1, hc2⟩)
              have q1 : (48 : Int) ≤ (s[k].toNat : Int) := by omega
              have q2 : (s[k].toNat : Int) ≤ 57 := by omega
              generalize hV : vlB s k = V at *
              generalize hC : s[k].toNat = C at *
              have hc48 : Hid (((10 * V + (C - 48) : Nat) : Int) = 10 * (V : Int) + ((C : Int) - 48)) := hide (by omega)
              clear h10 hvl hV
              go_wp2
              go_roundw
              case rel => exact ⟨_, _, _, _, _, _, _, _, _, _, _, _, _, _, _, _, _, _, _, _, _, _, _, _, _, _, _, _, ⟨k + 1, by omega, by go_num, by rw [HVS.out, hc48.out], fun j hj => by
                rcases (by omega : j < k ∨ j = k) with h | rfl
                · exact HALL.out j h
                · exact HD.out, hB⟩, rfl⟩
              case measure => simp [intOf]; omega
          · obtain rfl : k = s.size := by omega
            have HVV : Hid (vlS s = (vlB s s.size : Int)) := hide (by unfold vlS; rw [if_neg (by rw [HG0.out]; exact Bool.false_ne_true), ← HT.out]; try rfl)
            have hlen : ¬ (s.size : Int) < s.size := by omega
            have HNUM := hide (fun w => l1Num_any ((vlB s s.size : Int)) (by omega) (by omega) w)
            have hv0 : -999999 ≤ ((vlB s s.size : Int)) ∧ ((vlB s s.size : Int)) ≤ 999999 := by omega
            have HV0 := hide hv0
            clear h10 hvl hv0
            by_cases he : mkS (Lib.itoa ((vlB s s.size : Int))) = s
            · obtain ⟨hok, hn⟩ := pis_own HP.out HV0.out he
              rw [he] at HNUM
              have HN := hide hn
              subst hok
              clear he hn
              generalize vlB s s.size = V at *
              go_wp2_with (go_at_call 36; (with_reducible refine (HNUM.out _).mono ?_); rintro e w2 ⟨rfl, hb2⟩)
              go_ret2
              exact ⟨congrArg (fun v => Ending.returned (.tuple #[.int .i64 v, .bool true])) HN.out.symm, below_go hB hb2⟩
            · have HR := hide (pis_not HP.out (pis_no HP.out fun h0 _ _ _ h5 => by
                rw [HVV.out] at h5
                rw [h5] at he
                exact he h0.symm))
              generalize hX : mkS (Lib.itoa ((vlB s s.size : Int))) = X at *
              have hne2 : (X.toList == s.toList) = false := by
                simp only [beq_eq_false_iff_ne, ne_eq]
                intro h
                rw [ByteArray.toList_eq, ByteArray.toList_eq] at h
                exact he (by apply ByteArray.ext; exact Array.toList_inj.1 h)
              clear he hX
              generalize vlB s s.size = V at *
              go_wp2_with (go_at_call 36; (with_reducible refine (HNUM.out _).mono ?_); rintro e w2 ⟨rfl, hb2⟩)
              go_ret2
              exact ⟨HR.out, below_go hB hb2⟩
  · have HG0 := hide hg
    have hg2 : ∃ h : 0 < s.size, 1 < s.size ∧ s[0] = 45 := by
      unfold ngO at hg
      simp only [Bool.and_eq_true, decide_eq_true_eq] at hg
      refine ⟨by omega, hg.1, ?_⟩
      rw [← data_at s 0 (by omega)]; exact hg.2
    obtain ⟨h00, hg2, hg3⟩ := hg2
    have g1 : (1 : Int) < s.size := by omega
    have g2 : ((s[0].toNat : Int) == 45) = true := by rw [hg3]; rfl
    have HTS : Hid (s.extract 1 s.size = stS s) := hide (by unfold stS; rw [if_pos hg])
    have HSZ : Hid ((s.extract 1 s.size).size + 1 = s.size) := hide (by rw [ByteArray.size_extract]; omega)
    clear hg hg3
    go_enter Tryd.func52, Tryd.ntmps52
    go_upto_region 4 with (fail)
    generalize hTT : s.extract 1 s.size = T at *
    have HT : Hid (T = stS s) := HTS
    have hTs : T.size + 1 = s.size := HSZ.out
    clear g1 g2 hTT HTS
    rcases (by omega : T.size = 0 ∨ 6 < T.size ∨ (1 ≤ T.size ∧ T.size ≤ 6)) with hz | hz | ⟨hz1, hz6⟩
    · have HR := hide (pis_not hP (pis_no hP fun _ h1 _ _ _ => by rw [← HT.out] at h1; omega))
      have r1 : ¬ (1 : Int) ≤ T.size := by omega
      have e1 : decide ((1 : Int) ≤ T.size) = false := decide_eq_false r1
      clear hP
      go_wp2_with (go_at_call 35; go_in)
      go_ret2
      exact ⟨HR.out, Below.refl _ _⟩
    · have HR := hide (pis_not hP (pis_no hP fun _ _ h2 _ _ => by rw [← HT.out] at h2; omega))
      have r1 : (1 : Int) ≤ T.size := by omega
      have r2 : ¬ (T.size : Int) ≤ 6 := by omega
      have e1 : decide ((1 : Int) ≤ T.size) = true := decide_eq_true r1
      have e2 : decide ((T.size : Int) ≤ 6) = false := decide_eq_false r2
      clear hP
      go_wp2_with (go_at_call 35; go_in)
      go_ret2
      exact ⟨HR.out, Below.refl _ _⟩
    · have r1 : (1 : Int) ≤ T.size := by omega
      have r2 : (T.size : Int) ≤ 6 := by omega
      have e1 : decide ((1 : Int) ≤ T.size) = true := decide_eq_true r1
      have e2 : decide ((T.size : Int) ≤ 6) = true := decide_eq_true r2
      have HP := hide hP
      clear hP
      go_upto_region 8 with (go_at_call 35; go_in)
      clear r1 e1 e2
      go_loopw [5, 6] (fun n i wr => ∃ k : Nat, k ≤ T.size ∧ i = .int .i64 k ∧ n = .int .i64 (vlB T k : Int) ∧ AllD T k ∧ Below w.heap.size w wr) (fun _ i _ => T.size - (intOf i).toNat)
      case atStart => exact ⟨0, Nat.zero_le _, rfl, rfl, (fun j hj => absurd hj (Nat.not_lt_zero _)), Below.refl _ _⟩
      case round =>
        obtain ⟨k, hk, rfl, rfl, hall, hB⟩ := hrel
        have hvl : vlB T k < 10 ^ k := vlL_lt T.data.toList k hall
        have HALL := hide hall
        clear hall
        have h10 : (10 : Nat) ^ k ≤ 10 ^ 6 := Nat.pow_le_pow_right (by omega) (by omega)
        have hv6 : vlB T k ≤ 999999 := by
          have e6 : (10 : Nat) ^ 6 = 1000000 := by decide
          omega
        by_cases hlt : k < T.size
        · have a1 : (0 : Int) ≤ k := by omega
          have a2 : (k : Int) < T.size := by omega
          have HG := hide (data_at T k hlt)
          have HVS : Hid (vlB T (k + 1) = 10 * vlB T k + (T[k].toNat - 48)) := hide (by rw [← HG.out]; rfl)
          rcases (by omega : T[k].toNat < 48 ∨ 57 < T[k].toNat ∨ (48 ≤ T[k].toNat ∧ T[k].toNat ≤ 57)) with hc | hc | ⟨hc1, hc2⟩
          · have HR := hide (pis_not HP.out (pis_no HP.out fun _ _ _ h4 _ => by
              rw [← HT.out] at h4
              have := h4 k hlt
              rw [HG.out] at this
              unfold dgO at this; omega))
            have q1 : (T[k].toNat : Int) < 48 := by omega
            clear hc h10 hvl
            go_wp2
            go_ret2
            exact ⟨HR.out, hB⟩
          · have HR := hide (pis_not HP.out (pis_no HP.out fun _ _ _ h4 _ => by
              rw [← HT.out] at h4
              have := h4 k hlt
              rw [HG.out] at this
              unfold dgO at this; omega))
            have q1 : ¬ (T[k].toNat : Int) < 48 := by omega
            have q2 : 57 < (T[k].toNat : Int) := by omega
            clear hc h10 hvl
            go_wp2
            go_ret2
            exact ⟨HR.out, hB⟩
          · have HD : Hid (dgO (T.data.toList.getD k 0)) := hide (by rw [HG.out]; exact ⟨hc1, hc2⟩)
            have q1 : (48 : Int) ≤ (T[k].toNat : Int) := by omega
            have q2 : (T[k].toNat : Int) ≤ 57 := by omega
            generalize hV : vlB T k = V at *
            generalize hC : T[k].toNat = C at *
            have hc48 : Hid (((10 * V + (C - 48) : Nat) : Int) = 10 * (V : Int) + ((C : Int) - 48)) := hide (by omega)
            clear h10 hvl hV
            go_wp2
            go_roundw
            case rel => exact ⟨_, _, _, _, _, _, _, _, _, _, _, _, _, _, _, _, _, _, _, _, _, _, _, _, _, _, _, _, ⟨k + 1, by omega, by go_num, by rw [HVS.out, hc48.out], fun j hj => by
              rcases (by omega : j < k ∨ j = k) with h | rfl
              · exact HALL.out j h
              · exact HD.out, hB⟩, rfl⟩
            case measure => simp [intOf]; omega
        · obtain rfl : k = T.size := by omega
          have HVV : Hid (vlS s = -(vlB T T.size : Int)) := hide (by unfold vlS; rw [if_pos HG0.out, ← HT.out]; try rfl)
          have hlen : (T.size : Int) < s.size := by omega
          have HNUM := hide (fun w => l1Num_any (-(vlB T T.size : Int)) (by omega) (by omega) w)
          have hv0 : -999999 ≤ (-(vlB T T.size : Int)) ∧ (-(vlB T T.size : Int)) ≤ 999999 := by omega
          have HV0 := hide hv0
          clear h10 hvl hv0
          by_cases he : mkS (Lib.itoa (-(vlB T T.size : Int))) = s
          · obtain ⟨hok, hn⟩ := pis_own HP.out HV0.out he
            rw [he] at HNUM
            have HN := hide hn
            subst hok
            clear he hn
            generalize vlB T T.size = V at *
            go_wp2_with (go_at_call 36; (with_reducible refine (HNUM.out _).mono ?_); rintro e w2 ⟨rfl, hb2⟩)
            go_ret2
            exact ⟨congrArg (fun v => Ending.returned (.tuple #[.int .i64 v, .bool true])) HN.out.symm, below_go hB hb2⟩
          · have HR := hide (pis_not HP.out (pis_no HP.out fun h0 _ _ _ h5 => by
              rw [HVV.out] at h5
              rw [h5] at he
              exact he h0.symm))
            generalize hX : mkS (Lib.itoa (-(vlB T T.size : Int))) = X at *
            have hne2 : (X.toList == s.toList) = false := by
              simp only [beq_eq_false_iff_ne, ne_eq]
              intro h
              rw [ByteArray.toList_eq, ByteArray.toList_eq] at h
              exact he (by apply ByteArray.ext; exact Array.toList_inj.1 h)
            clear he hX
            generalize vlB T T.size = V at *
            go_wp2_with (go_at_call 36; (with_reducible refine (HNUM.out _).mono ?_); rintro e w2 ⟨rfl, hb2⟩)
            go_ret2
            exact ⟨HR.out, below_go hB hb2⟩

set_option maxRecDepth 100000 in
theorem specParseInt_any (s : ByteArray) (hs : s.size ≤ 1048576) (n : Int) (ok : Bool) (hP : PIs s n ok) (w : World) : Calls Tryd.prog 29 #[.string s] w fun e w' => e = .returned (.tuple #[.int .i64 n, .bool ok]) ∧ Below w.heap.size w w' := by
  have HR := hide (fun w => l1Read_any s hs n ok hP w)
  clear hP
  go_enter Tryd.func29, Tryd.ntmps29
  go_wp2_with (go_at_call 52; (with_reducible refine (HR.out _).mono ?_); rintro e w2 ⟨rfl, hb2⟩)
  go_ret2
  exact ⟨rfl, hb2⟩

end Go.Proofs.YtbgfdeicjaencaaDoor
