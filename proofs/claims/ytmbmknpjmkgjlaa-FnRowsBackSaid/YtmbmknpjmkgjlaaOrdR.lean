/-
  Contracts: cmp.Compare, slices.Compare at rows; how two rows compare, as a sort asks it.
-/
import Derived.Test.YtmbmknpjmkgjlaaRsW
import Derived.Test.YtmbmknpjmkgjlaaTiles
import Derived.Lib.QuietBelow
import Derived.Shelf.SlSortCmp.InsertionK
namespace Go.Proofs.Ytmbmknpjmkgjlaa
open Go.RowKit Go.Sort

def cmI (x y : Int) : Int := if x < y then -1 else if y < x then 1 else 0

theorem isNaN_any (x : Int) (w : World) : Calls Try.prog 101 #[.int .i64 x] w fun e w' => e = .returned (.bool false) ∧ w = w' := by
  go_enter Try.func101, Try.ntmps101
  go_wp2
  go_ret
  exact ⟨rfl, rfl⟩

theorem compareI_any (x y : Int) (w : World) : Calls Try.prog 88 #[.int .i64 x, .int .i64 y] w fun e w' => e = .returned (.int .i64 (cmI x y)) ∧ w = w' := by
  rcases Int.lt_trichotomy x y with h | h | h
  · have e : cmI x y = -1 := if_pos h
    rw [e]
    go_enter Try.func88, Try.ntmps88
    go_wp2_with ((go_at_call 101); (refine (isNaN_any _ _).mono ?_); rintro e w' ⟨rfl, rfl⟩)
    go_ret
    exact ⟨rfl, rfl⟩
  · subst h
    have e : cmI x x = 0 := by simp [cmI]
    rw [e]
    go_enter Try.func88, Try.ntmps88
    go_wp2_with ((go_at_call 101); (refine (isNaN_any _ _).mono ?_); rintro e w' ⟨rfl, rfl⟩)
    go_ret
    exact ⟨rfl, rfl⟩
  · have h1 : ¬ x < y := by omega
    have e : cmI x y = 1 := by unfold cmI; rw [if_neg h1, if_pos h]
    rw [e]
    go_enter Try.func88, Try.ntmps88
    go_wp2_with ((go_at_call 101); (refine (isNaN_any _ _).mono ?_); rintro e w' ⟨rfl, rfl⟩)
    go_ret
    exact ⟨rfl, rfl⟩

theorem cmR_first {f h : Nat → Int} {k : Nat} (hk : k < 4) (hall : ∀ p, p < k → f p = h p) (hne : f k ≠ h k) : cmR f h = cmI (f k) (h k) := by
  unfold cmR cmI
  simp only [ltR, eqR, decide_eq_true_eq]
  rcases p4 hk with rfl | rfl | rfl | rfl
  · split <;> split <;> (try split) <;> omega
  · have h0 := hall 0 (by omega)
    split <;> split <;> (try split) <;> omega
  · have h0 := hall 0 (by omega); have h1 := hall 1 (by omega)
    split <;> split <;> (try split) <;> omega
  · have h0 := hall 0 (by omega); have h1 := hall 1 (by omega); have h2 := hall 2 (by omega)
    split <;> split <;> (try split) <;> omega
theorem cmR_all {f h : Nat → Int} (hall : ∀ p, p < 4 → f p = h p) : cmR f h = 0 := by
  have he : eqR f h = true := eqR_true.2 hall
  unfold cmR
  rw [ordR.irrefl f h he, he]
  rfl

set_option maxHeartbeats 4000000 in
theorem compare4_any (w : World) (g g' c1 c2 : Nat) (f h : Nat → Int) (hH : Has w g 4 (fun o => .int .i64 (f o))) (hH' : Has w g' 4 (fun o => .int .i64 (h o))) :
    Calls Try.prog 74 #[.slice (some ⟨g, 0, none⟩) 4 c1, .slice (some ⟨g', 0, none⟩) 4 c2] w fun e w' => e = .returned (.int .i64 (cmR f h)) ∧ w = w' := by
  have H1 := hide hH
  have H2 := hide hH'
  clear hH hH'
  go_enter Try.func74, Try.ntmps74
  go_wp2_with fail
  go_loop [11] (fun v => ∃ k : Nat, k ≤ 4 ∧ v = .int .i64 k ∧ Hid (∀ p, p < k → f p = h p)) (fun i => 4 - (intOf i).toNat)
  case atStart => exact ⟨0, by omega, rfl, hide fun p hp => absurd hp (Nat.not_lt_zero _)⟩
  case round =>
    obtain ⟨k, hk, rfl, hall⟩ := hrel
    by_cases h4 : k = 4
    · subst h4
      have hr := hide (cmR_all hall.out)
      go_wp2
      go_ret
      exact ⟨ret_int hr.out.symm, rfl⟩
    · have hlt : k < 4 := by omega
      have q1 : w.cell? ⟨g, k, none⟩ = some (.int .i64 (f k)) := H1.out.1 _ hlt
      have q2 : w.cell? ⟨g', k, none⟩ = some (.int .i64 (h k)) := H2.out.1 _ hlt
      by_cases he : f k = h k
      · have hc : cmI (f k) (h k) = 0 := by rw [he]; simp [cmI]
        have hc2 : (cmI (f k) (h k) == 0) = true := by rw [hc]; rfl
        have HE := hide he
        clear he
        go_wp2_with ((go_at_call 88); (refine (compareI_any _ _ _).mono ?_); rintro e w' ⟨rfl, rfl⟩)
        go_round
        case rel => exact ⟨k + 1, by omega, by go_num, hide (all_succ hall.out HE.out)⟩
        case measure => simp [intOf]; omega
      · have hr := hide (cmR_first hlt hall.out he)
        have hc2 : (cmI (f k) (h k) != 0) = true := by
          have : cmI (f k) (h k) ≠ 0 := by unfold cmI; split <;> (try split) <;> omega
          simpa using this
        have HE := hide he
        clear he
        go_wp2_with ((go_at_call 88); (refine (compareI_any _ _ _).mono ?_); rintro e w' ⟨rfl, rfl⟩)
        go_ret
        exact ⟨ret_int hr.out.symm, rfl⟩


theorem keepR {w' : World} {B0 B1 : Nat} {b c : Nat → Int} (h0 : Has w' B0 4 (fun o => .int .i64 (b o))) (h1 : Has w' B1 4 (fun o => .int .i64 (c o))) : (∀ o, o < 4 → w'.cell? ⟨B0, o, none⟩ = some (.int .i64 (b o))) ∧ (∀ o, o < 4 → w'.cell? ⟨B1, o, none⟩ = some (.int .i64 (c o))) :=
  ⟨h0.1, h1.1⟩
theorem compare4_D (w : World) (g g' c1 c2 : Nat) (f h : Nat → Int) (hH : Has w g 4 (fun o => .int .i64 (f o))) (hH' : Has w g' 4 (fun o => .int .i64 (h o))) :
    Calls Try.prog 74 #[.slice (some ⟨g, 0, none⟩) 4 c1, .slice (some ⟨g', 0, none⟩) 4 c2] w fun e w' => e = .returned (.int .i64 (cmR f h)) ∧ Below w.heap.size w w' ∧ w.drawn ≤ w'.drawn :=
  (compare4_any w g g' c1 c2 f h hH hH').mono fun _ _ ⟨h1, h2⟩ => ⟨h1, h2 ▸ Below.refl _ _, h2 ▸ Nat.le_refl _⟩

set_option maxHeartbeats 8000000 in
set_option maxRecDepth 100000 in
theorem order_R (b c : Nat → Int) (w : World) : Calls Try.prog 73 #[.agg #[.int .i64 (b 0), .int .i64 (b 1), .int .i64 (b 2), .int .i64 (b 3)], .agg #[.int .i64 (c 0), .int .i64 (c 1), .int .i64 (c 2), .int .i64 (c 3)]] w fun e w' => e = .returned (.int .i64 (cmR b c)) ∧ Below w.heap.size w w' ∧ w.drawn ≤ w'.drawn := by
  go_enter Try.func73, Try.ntmps73
  go_upto_region 1 with (fail)
  generalize hW : (w.alloc _).alloc _ = w1
  have hB : Below w.heap.size w w1 := by (rw [← hW]; exact (by repeat (first | (with_reducible exact Below.refl _ _) | (with_reducible assumption) | (with_reducible refine below_go ?_ (by with_reducible assumption)) | (with_reducible refine below_new ?_ _) | ((with_reducible refine below_put ?_ ?_ _); rotate_left; (dsimp only; omega)) | (with_reducible refine Below.drew ?_) | (with_reducible refine below_dn ?_ _))))
  have hD : w.drawn ≤ w1.drawn := by (rw [← hW]; exact Nat.le_refl _)
  have i0 : Has w1 w.heap.size 4 (fun o => .int .i64 (b o)) := by (rw [← hW]; repeat (first | (refine Has.new ?_ rfl; simp; done) | refine Has.alloc ?_ _))
  have i1 : Has w1 (w.heap.size + 1) 4 (fun o => .int .i64 (c o)) := by (rw [← hW]; repeat (first | (refine Has.new ?_ rfl; simp; done) | refine Has.alloc ?_ _))
  have ci0 := i0.1; have zi0 := i0.2.2; have ci1 := i1.1; have zi1 := i1.2.2
  clear hW
  go_region_held3 (fun w' => (∀ o, o < 4 → w'.cell? ⟨w.heap.size, o, none⟩ = some (.int .i64 (b o))) ∧ (∀ o, o < 4 → w'.cell? ⟨w.heap.size + 1, o, none⟩ = some (.int .i64 (c o)))) (first
    | (with_reducible exact keepR i0 i1)
    | (with_reducible exact keepR (Has.drew i0) (Has.drew i1)))
    (first | (go_at_call 74; (with_reducible refine (compare4_D _ _ _ _ _ _ _ i0 i1).mono ?_); rintro e w2 ⟨rfl, hb2, hd2⟩; have hD' : w.drawn ≤ w2.drawn := Nat.le_trans hD hd2; clear hD hd2; have hD := hD'; clear hD'; have hB' : Below w.heap.size w w2 := below_go (by repeat (first | (with_reducible exact Below.refl _ _) | (with_reducible assumption) | (with_reducible refine below_go ?_ (by with_reducible assumption)) | (with_reducible refine below_new ?_ _) | ((with_reducible refine below_put ?_ ?_ _); rotate_left; (dsimp only; omega)) | (with_reducible refine Below.drew ?_) | (with_reducible refine below_dn ?_ _))) hb2; have i0' : Has w2 (w.heap.size) 4 _ := Has.call (by repeat (first | (with_reducible assumption) | (with_reducible apply Has.set) | ((with_reducible apply Has.other); (case hne => (dsimp only; omega))) | (with_reducible apply Has.alloc) | (with_reducible apply Has.drew) | (with_reducible apply Has.drewN))) hb2; have i1' : Has w2 (w.heap.size + 1) 4 _ := Has.call (by repeat (first | (with_reducible assumption) | (with_reducible apply Has.set) | ((with_reducible apply Has.other); (case hne => (dsimp only; omega))) | (with_reducible apply Has.alloc) | (with_reducible apply Has.drew) | (with_reducible apply Has.drewN))) hb2; clear hB hb2; have hB := hB'; clear hB'; (try clear fi0); (try clear zi0); (try clear ci0); clear i0; have i0 := i0'; clear i0'; have ci0 := i0.1; have fi0 := i0.2.1; have zi0 := i0.2.2; (try clear fi1); (try clear zi1); (try clear ci1); clear i1; have i1 := i1'; clear i1'; have ci1 := i1.1; have fi1 := i1.2.1; have zi1 := i1.2.2) | (go_at_call 74; (with_reducible refine (compare4_D _ _ _ _ _ _ _ (Has.drew i0) (Has.drew i1)).mono ?_); rintro e w2 ⟨rfl, hb2, hd2⟩; have hD' : w.drawn ≤ w2.drawn := Nat.le_trans (Nat.le_trans hD (Nat.le_succ _)) hd2; clear hD hd2; have hD := hD'; clear hD'; have hB' : Below w.heap.size w w2 := below_go (by repeat (first | (with_reducible exact Below.refl _ _) | (with_reducible assumption) | (with_reducible refine below_go ?_ (by with_reducible assumption)) | (with_reducible refine below_new ?_ _) | ((with_reducible refine below_put ?_ ?_ _); rotate_left; (dsimp only; omega)) | (with_reducible refine Below.drew ?_) | (with_reducible refine below_dn ?_ _))) hb2; have i0' : Has w2 (w.heap.size) 4 _ := Has.call (by repeat (first | (with_reducible assumption) | (with_reducible apply Has.set) | ((with_reducible apply Has.other); (case hne => (dsimp only; omega))) | (with_reducible apply Has.alloc) | (with_reducible apply Has.drew) | (with_reducible apply Has.drewN))) hb2; have i1' : Has w2 (w.heap.size + 1) 4 _ := Has.call (by repeat (first | (with_reducible assumption) | (with_reducible apply Has.set) | ((with_reducible apply Has.other); (case hne => (dsimp only; omega))) | (with_reducible apply Has.alloc) | (with_reducible apply Has.drew) | (with_reducible apply Has.drewN))) hb2; clear hB hb2; have hB := hB'; clear hB'; (try clear fi0); (try clear zi0); (try clear ci0); clear i0; have i0 := i0'; clear i0'; have ci0 := i0.1; have fi0 := i0.2.1; have zi0 := i0.2.2; (try clear fi1); (try clear zi1); (try clear ci1); clear i1; have i1 := i1'; clear i1'; have ci1 := i1.1; have fi1 := i1.2.1; have zi1 := i1.2.2) | fail)
  all_goals
    go_wp2
    go_ret
    exact ⟨rfl, (by repeat (first | (with_reducible exact Below.refl _ _) | (with_reducible assumption) | (with_reducible refine below_go ?_ (by with_reducible assumption)) | (with_reducible refine below_new ?_ _) | ((with_reducible refine below_put ?_ ?_ _); rotate_left; (dsimp only; omega)) | (with_reducible refine Below.drew ?_) | (with_reducible refine below_dn ?_ _))), hD⟩

theorem gro_of {w w' : World} (h : Below w.heap.size w w') (hd : w.drawn ≤ w'.drawn) : ∃ q os', w' = grow (w.drewN q) os' := by
  obtain ⟨p, hp⟩ := regrown_of_below h
  refine ⟨w'.drawn - w.drawn, p.os, ?_⟩
  have hd2 : w'.drawn = p.d := by rw [hp]; rfl
  have e : redrawn w p.d = w.drewN (w'.drawn - w.drawn) := by
    unfold redrawn World.drewN
    congr 1
    omega
  rw [← e]; exact hp

end Go.Proofs.Ytmbmknpjmkgjlaa
