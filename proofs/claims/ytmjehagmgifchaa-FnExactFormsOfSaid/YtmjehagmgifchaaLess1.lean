/-
  Contracts: cmp.Compare and slices.Compare at whole numbers.
-/
import Derived.Test.YtmjehagmgifchaaOwn
import Derived.Test.YtmjehagmgifchaaCellLoop
import Derived.Test.YtmjehagmgifchaaFormMath2
import Derived.Test.YtmjehagmgifchaaTiles
namespace Go.Proofs.Ytmjehagmgifchaa
open Go.RowKit

def cmI (x y : Int) : Int := if x < y then -1 else if y < x then 1 else 0

theorem isNaN_any (x : Int) (w : World) : Calls Try.prog 195 #[.int .i64 x] w fun e w' => e = .returned (.bool false) ∧ w = w' := by
  go_enter Try.func195, Try.ntmps195
  go_wp2
  go_ret
  exact ⟨rfl, rfl⟩

theorem compareI_any (x y : Int) (w : World) : Calls Try.prog 178 #[.int .i64 x, .int .i64 y] w fun e w' => e = .returned (.int .i64 (cmI x y)) ∧ w = w' := by
  rcases Int.lt_trichotomy x y with h | h | h
  · have e : cmI x y = -1 := if_pos h
    rw [e]
    go_enter Try.func178, Try.ntmps178
    go_wp2_with ((go_at_call 195); (refine (isNaN_any _ _).mono ?_); rintro e w' ⟨rfl, rfl⟩)
    go_ret
    exact ⟨rfl, rfl⟩
  · subst h
    have e : cmI x x = 0 := by simp [cmI]
    rw [e]
    go_enter Try.func178, Try.ntmps178
    go_wp2_with ((go_at_call 195); (refine (isNaN_any _ _).mono ?_); rintro e w' ⟨rfl, rfl⟩)
    go_ret
    exact ⟨rfl, rfl⟩
  · have h1 : ¬ x < y := by omega
    have e : cmI x y = 1 := by unfold cmI; rw [if_neg h1, if_pos h]
    rw [e]
    go_enter Try.func178, Try.ntmps178
    go_wp2_with ((go_at_call 195); (refine (isNaN_any _ _).mono ?_); rintro e w' ⟨rfl, rfl⟩)
    go_ret
    exact ⟨rfl, rfl⟩

theorem cmB_first {f h : Nat → Int} {k : Nat} (hk : k < 16) (hall : ∀ p, p < k → f p = h p) (hne : f k ≠ h k) : cmB f h = cmI (f k) (h k) := by
  unfold cmB cmI
  cases e : fpT f h 16 with
  | none => exact absurd (fpT_none e k hk) hne
  | some q =>
    obtain ⟨q1, q2, q3⟩ := fpT_some e
    have hq : q = k := by
      rcases Nat.lt_trichotomy q k with h1 | h1 | h1
      · exact absurd (hall q h1) q2
      · exact h1
      · exact absurd (q3 k h1) hne
    subst hq
    by_cases h1 : f q < h q
    · simp [h1]
    · simp [h1]
      omega
theorem cmB_all {f h : Nat → Int} (hall : ∀ p, p < 16 → f p = h p) : cmB f h = 0 := by
  unfold cmB
  rw [fpT_eqB.2 (eqB_true.2 hall)]

set_option maxHeartbeats 4000000 in
theorem compare16_any (w : World) (g g' c1 c2 : Nat) (f h : Nat → Int) (hH : Has w g 16 (fun o => .int .i64 (f o))) (hH' : Has w g' 16 (fun o => .int .i64 (h o))) :
    Calls Try.prog 167 #[.slice (some ⟨g, 0, none⟩) 16 c1, .slice (some ⟨g', 0, none⟩) 16 c2] w fun e w' => e = .returned (.int .i64 (cmB f h)) ∧ w = w' := by
  have H1 := hide hH
  have H2 := hide hH'
  clear hH hH'
  go_enter Try.func167, Try.ntmps167
  go_wp2_with fail
  go_loop [11] (fun v => ∃ k : Nat, k ≤ 16 ∧ v = .int .i64 k ∧ Hid (∀ p, p < k → f p = h p)) (fun i => 16 - (intOf i).toNat)
  case atStart => exact ⟨0, by omega, rfl, hide fun p hp => absurd hp (Nat.not_lt_zero _)⟩
  case round =>
    obtain ⟨k, hk, rfl, hall⟩ := hrel
    by_cases h4 : k = 16
    · subst h4
      have hr := hide (cmB_all hall.out)
      go_wp2
      go_ret
      exact ⟨ret_int hr.out.symm, rfl⟩
    · have hlt : k < 16 := by omega
      have q1 : w.cell? ⟨g, k, none⟩ = some (.int .i64 (f k)) := H1.out.1 _ hlt
      have q2 : w.cell? ⟨g', k, none⟩ = some (.int .i64 (h k)) := H2.out.1 _ hlt
      by_cases he : f k = h k
      · have hc : cmI (f k) (h k) = 0 := by rw [he]; simp [cmI]
        have hc2 : (cmI (f k) (h k) == 0) = true := by rw [hc]; rfl
        have HE := hide he
        clear he
        go_wp2_with ((go_at_call 178); (refine (compareI_any _ _ _).mono ?_); rintro e w' ⟨rfl, rfl⟩)
        go_round
        case rel => exact ⟨k + 1, by omega, by go_num, hide (all_succ hall.out HE.out)⟩
        case measure => simp [intOf]; omega
      · have hr := hide (cmB_first hlt hall.out he)
        have hc2 : (cmI (f k) (h k) != 0) = true := by
          have : cmI (f k) (h k) ≠ 0 := by unfold cmI; split <;> (try split) <;> omega
          simpa using this
        have HE := hide he
        clear he
        go_wp2_with ((go_at_call 178); (refine (compareI_any _ _ _).mono ?_); rintro e w' ⟨rfl, rfl⟩)
        go_ret
        exact ⟨ret_int hr.out.symm, rfl⟩

end Go.Proofs.Ytmjehagmgifchaa
