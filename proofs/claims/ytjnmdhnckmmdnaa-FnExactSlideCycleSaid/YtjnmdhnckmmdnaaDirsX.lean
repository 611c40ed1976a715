/-
  Contracts: whether a list is one of directions.
-/
import Derived.Test.YtjnmdhnckmmdnaaArgInts
import Derived.Test.YtjnmdhnckmmdnaaTkWords
import Derived.Test.YtjnmdhnckmmdnaaMvWords
import Derived.Test.YtjnmdhnckmmdnaaCycleMath
namespace Go.Proofs.Ytjnmdhnckmmdnaa
open Go.RowKit

def dirsX (x : Nat → Int) (n : Nat) : Bool := (List.range n).all fun j => inB (x j) 0 3
def lsX (x : Nat → Int) (n : Nat) : List Nat := (List.range n).map fun j => (x j).toNat
theorem lsX_len (x : Nat → Int) (n : Nat) : (lsX x n).length = n := by simp [lsX]
theorem dirsX_iff {x : Nat → Int} {n : Nat} : dirsX x n = true ↔ ∀ j, j < n → inB (x j) 0 3 = true := by
  simp [dirsX, List.all_eq_true]
theorem dirsX_not {x : Nat → Int} {n k : Nat} (hk : k < n) (h : inB (x k) 0 3 = false) : dirsX x n = false := by
  cases hd : dirsX x n
  · rfl
  · rw [dirsX_iff.1 hd k hk] at h; cases h
theorem inB_03 {n : Int} (h : inB n 0 3 = true) : 0 ≤ n ∧ n ≤ 3 := by simpa [inB] using h
theorem lsX_dirs {x : Nat → Int} {n : Nat} (h : dirsX x n = true) : ∀ d, d ∈ lsX x n → d < 4 := by
  intro d hd
  obtain ⟨j, hj, rfl⟩ := List.mem_map.1 hd
  have := inB_03 (dirsX_iff.1 h j (List.mem_range.1 hj))
  omega
theorem lsX_get (x : Nat → Int) {n k : Nat} (hk : k < n) : (lsX x n).getD k 0 = (x k).toNat := by simp [lsX, hk]
theorem lsX_has {w : World} {g n : Nat} {x : Nat → Int} (h : dirsX x n = true) (hH : Has w g n (fun o => .int .i64 (x o))) : Has w g (lsX x n).length (fI (lsX x n)) := by
  rw [lsX_len]
  refine hH.congr fun o ho => ?_
  have := inB_03 (dirsX_iff.1 h o ho)
  show _ = Value.int .i64 _
  rw [lsX_get x ho]
  congr 1; omega
def Dz (x : Nat → Int) (n : Nat) (i : Int) : Prop := (i = -1 ∧ dirsX x n = true) ∨ (0 ≤ i ∧ dirsX x n = false)

theorem areDir1_any (n : Int) (w : World) : Calls Try.prog 152 #[.int .i64 n] w fun e w' => e = .returned (.bool (!inB n 0 3)) ∧ w = w' := by
  go_enter Try.func152, Try.ntmps152
  go_wp2_with (go_at_call 113; refine (isDirection_any _ _).mono ?_; rintro e w1 ⟨rfl, rfl⟩)
  go_ret
  exact ⟨rfl, rfl⟩

set_option maxHeartbeats 2000000 in
theorem indexFuncD_any (g n cap : Nat) (x : Nat → Int) (w : World) (hn : n ≤ 1048576) (hH : Has w g n (fun o => .int .i64 (x o))) :
    Calls Try.prog 162 #[.slice (some ⟨g, 0, none⟩) n cap, .func (.func 152) #[] #[]] w fun e w' => ∃ i, e = .returned (.int .i64 i) ∧ Dz x n i ∧ w = w' := by
  have HH := hide hH
  clear hH
  go_enter Try.func162, Try.ntmps162
  go_wp2
  go_loop [5, 8] (fun _ i => ∃ k : Nat, k ≤ n ∧ i = .int .i64 k ∧ Hid (∀ j, j < k → inB (x j) 0 3 = true)) (fun _ i => n - (intOf i).toNat)
  case atStart => exact ⟨0, Nat.zero_le _, rfl, hide (fun j hj => absurd hj (Nat.not_lt_zero _))⟩
  case round =>
    obtain ⟨k, hk, rfl, hall⟩ := hrel
    by_cases hlt : k < n
    · have q1 : w.cell? ⟨g, k, none⟩ = some (.int .i64 (x k)) := HH.out.1 k hlt
      cases hz : inB (x k) 0 3
      · have hz' : (!inB (x k) 0 3) = true := by rw [hz]; rfl
        have HZ := hide hz
        clear hz
        go_wp2_with ((go_at_call 152); (refine (Calls.bool_eq (areDir1_any _ _) hz').mono ?_); rintro e w' ⟨rfl, rfl⟩)
        go_ret
        exact ⟨_, rfl, .inr ⟨by omega, dirsX_not hlt HZ.out⟩, rfl⟩
      · have hz' : (!inB (x k) 0 3) = false := by rw [hz]; rfl
        have HZ := hide hz
        clear hz
        go_wp2_with ((go_at_call 152); (refine (Calls.bool_eq (areDir1_any _ _) hz').mono ?_); rintro e w' ⟨rfl, rfl⟩)
        go_round
        case rel => exact ⟨k + 1, by omega, by go_num, hide (fun j hj => by
          rcases (by omega : j < k ∨ j = k) with h | rfl
          · exact hall.out j h
          · exact HZ.out)⟩
        case measure => simp [intOf]; omega
    · obtain rfl : k = n := by omega
      go_wp2
      go_ret
      exact ⟨_, rfl, .inl ⟨rfl, dirsX_iff.2 hall.out⟩, rfl⟩

theorem containsFuncD_any (g n cap : Nat) (x : Nat → Int) (w : World) (hn : n ≤ 1048576) (hH : Has w g n (fun o => .int .i64 (x o))) :
    Calls Try.prog 151 #[.slice (some ⟨g, 0, none⟩) n cap, .func (.func 152) #[] #[]] w fun e w' => e = .returned (.bool (!dirsX x n)) ∧ w = w' := by
  have HH := hide hH
  clear hH
  go_enter Try.func151, Try.ntmps151
  go_upto_region 1 with fail
  go_wp2_with fail
  refine (indexFuncD_any g n cap x _ hn HH.out).mono ?_
  rintro e w1 ⟨i, rfl, hz, rfl⟩
  rcases hz with ⟨rfl, hd⟩ | ⟨h0, hd⟩
  · have HD := hide hd
    clear hd
    go_wp2
    go_ret
    exact ⟨ret_bool (by rw [HD.out]; rfl), rfl⟩
  · have HD := hide hd
    clear hd
    go_wp2
    go_ret
    exact ⟨ret_bool (by rw [HD.out]; rfl), rfl⟩

theorem areDirections_any (g n cap : Nat) (x : Nat → Int) (w : World) (hn : n ≤ 1048576) (hH : Has w g n (fun o => .int .i64 (x o))) :
    Calls Try.prog 130 #[.slice (some ⟨g, 0, none⟩) n cap] w fun e w' => e = .returned (.bool (dirsX x n)) ∧ w = w' := by
  have HH := hide hH
  clear hH
  go_enter Try.func130, Try.ntmps130
  go_wp2_with ((go_at_call 151); (refine (containsFuncD_any g n cap x _ hn HH.out).mono ?_); rintro e w' ⟨rfl, rfl⟩)
  go_ret
  exact ⟨ret_bool (by simp), rfl⟩

set_option maxHeartbeats 2000000 in
theorem l5Sides_any (g n cap : Nat) (x : Nat → Int) (w : World) (hn : n ≤ 1048576) (hH : Has w g n (fun o => .int .i64 (x o))) :
    Calls Try.prog 128 #[.slice (some ⟨g, 0, none⟩) n cap] w fun e w' => e = .returned (.bool (dirsX x n)) ∧ w = w' := by
  have HH := hide hH
  clear hH
  go_enter Try.func128, Try.ntmps128
  go_wp2
  go_loop [3] (fun i => ∃ k : Nat, k ≤ n ∧ i = .int .i64 k ∧ Hid (∀ j, j < k → inB (x j) 0 3 = true)) (fun i => n - (intOf i).toNat)
  case atStart => exact ⟨0, Nat.zero_le _, rfl, hide (fun j hj => absurd hj (Nat.not_lt_zero _))⟩
  case round =>
    obtain ⟨k, hk, rfl, hall⟩ := hrel
    by_cases hlt : k < n
    · have q1 : w.cell? ⟨g, k, none⟩ = some (.int .i64 (x k)) := HH.out.1 k hlt
      cases hz : inB (x k) 0 3
      · have HZ := hide hz
        clear hz
        go_wp2_with ((go_at_call 112); (refine (Calls.bool_eq (l2Side_any _ _) HZ.out).mono ?_); rintro e w' ⟨rfl, rfl⟩)
        go_ret
        exact ⟨ret_bool (dirsX_not hlt HZ.out).symm, rfl⟩
      · have HZ := hide hz
        clear hz
        go_wp2_with ((go_at_call 112); (refine (Calls.bool_eq (l2Side_any _ _) HZ.out).mono ?_); rintro e w' ⟨rfl, rfl⟩)
        go_round
        case rel => exact ⟨k + 1, by omega, by go_num, hide (fun j hj => by
          rcases (by omega : j < k ∨ j = k) with h | rfl
          · exact hall.out j h
          · exact HZ.out)⟩
        case measure => simp [intOf]; omega
    · obtain rfl : k = n := by omega
      go_wp2
      go_ret
      exact ⟨ret_bool (dirsX_iff.2 hall.out).symm, rfl⟩

end Go.Proofs.Ytjnmdhnckmmdnaa
