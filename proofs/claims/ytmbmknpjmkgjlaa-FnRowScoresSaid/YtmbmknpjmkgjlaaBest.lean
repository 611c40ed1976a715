/-
  Contracts: the greatest sum of scores, the program's and the reference's.
-/
import Derived.Test.YtmbmknpjmkgjlaaRow5
import Derived.Test.YtmbmknpjmkgjlaaBestMath
import Derived.Deep.RegionWith
import Derived.IntWalk
namespace Go.Proofs.Ytmbmknpjmkgjlaa
open Go.RowKit

theorem turned_fn (r : Nat → Int) (w : World) : Calls Try.prog 55 #[.agg #[.int .i64 (r 0), .int .i64 (r 1), .int .i64 (r 2), .int .i64 (r 3)]] w fun e w' => e = .returned (.agg #[.int .i64 ((turnR r) 0), .int .i64 ((turnR r) 1), .int .i64 ((turnR r) 2), .int .i64 ((turnR r) 3)]) ∧ Below w.heap.size w w' := turned_any (r 0) (r 1) (r 2) (r 3) w
theorem l4Turn_fn (r : Nat → Int) (w : World) : Calls Try.prog 56 #[.agg #[.int .i64 (r 0), .int .i64 (r 1), .int .i64 (r 2), .int .i64 (r 3)]] w fun e w' => e = .returned (.agg #[.int .i64 ((turnR r) 0), .int .i64 ((turnR r) 1), .int .i64 ((turnR r) 2), .int .i64 ((turnR r) 3)]) ∧ Below w.heap.size w w' := l4Turn_any (r 0) (r 1) (r 2) (r 3) w

set_option maxHeartbeats 2000000 in
theorem slideBack_any (r : Nat → Int) (hr : ∀ i, i < 4 → 0 ≤ r i ∧ r i ≤ 17) (w : World) : Calls Try.prog 60 #[.agg #[.int .i64 (r 0), .int .i64 (r 1), .int .i64 (r 2), .int .i64 (r 3)]] w fun e w' => e = .returned (.tuple #[.agg #[.int .i64 ((turnR (SR.slid (turnR r)).out) 0), .int .i64 ((turnR (SR.slid (turnR r)).out) 1), .int .i64 ((turnR (SR.slid (turnR r)).out) 2), .int .i64 ((turnR (SR.slid (turnR r)).out) 3)], .int .i64 (SR.slid (turnR r)).score]) ∧ Below w.heap.size w w' := by
  have HR := hide (turnR_in hr)
  clear hr
  go_enter Try.func60, Try.ntmps60
  go_wp2_with fail
  generalize hW : (w.alloc _).alloc _ = w1
  have hB : Below w.heap.size w w1 := by (rw [← hW]; exact (by repeat (first | (with_reducible exact Below.refl _ _) | (with_reducible assumption) | (with_reducible refine below_go ?_ (by with_reducible assumption)) | (with_reducible refine below_new ?_ _) | ((with_reducible refine below_put ?_ ?_ _); rotate_left; (dsimp only; omega)) | (with_reducible refine Below.drew ?_) | (with_reducible refine below_dn ?_ _))))
  have hsz : Hid (w1.heap.size = w.heap.size + 1 + 1) := hide (by rw [← hW]; simp)
  have i0 : Has w1 (w.heap.size) 4 (fun o => .int .i64 (r o)) := by (rw [← hW]; repeat (first | (refine Has.new ?_ rfl; simp; done) | refine Has.alloc ?_ _))
  have ci0 := i0.1; have fi0 := i0.2.1; have zi0 := i0.2.2
  have i1 : Has w1 (w.heap.size + 1) 4 (fun _ => .int .i64 0) := by (rw [← hW]; repeat (first | (refine Has.new ?_ rfl; simp; done) | refine Has.alloc ?_ _))
  have ci1 := i1.1; have fi1 := i1.2.1; have zi1 := i1.2.2
  clear hW
  go_wp2_with (first | (go_at_call 55; (with_reducible refine (turned_fn r _).mono ?_); rintro e w2 ⟨rfl, hb2⟩; have hB' : Below w.heap.size w w2 := below_go (by repeat (first | (with_reducible exact Below.refl _ _) | (with_reducible assumption) | (with_reducible refine below_go ?_ (by with_reducible assumption)) | (with_reducible refine below_new ?_ _) | ((with_reducible refine below_put ?_ ?_ _); rotate_left; (dsimp only; omega)) | (with_reducible refine Below.drew ?_) | (with_reducible refine below_dn ?_ _))) hb2; have i0' : Has w2 (w.heap.size) 4 _ := Has.call (by repeat (first | (with_reducible assumption) | (with_reducible apply Has.set) | ((with_reducible apply Has.other); (case hne => (dsimp only; omega))) | (with_reducible apply Has.alloc) | (with_reducible apply Has.drew) | (with_reducible apply Has.drewN))) hb2; have i1' : Has w2 (w.heap.size + 1) 4 _ := Has.call (by repeat (first | (with_reducible assumption) | (with_reducible apply Has.set) | ((with_reducible apply Has.other); (case hne => (dsimp only; omega))) | (with_reducible apply Has.alloc) | (with_reducible apply Has.drew) | (with_reducible apply Has.drewN))) hb2; clear hB hb2; have hB := hB'; clear hB'; (try clear fi0); (try clear zi0); (try clear ci0); clear i0; have i0 := i0'; clear i0'; have ci0 := i0.1; have fi0 := i0.2.1; have zi0 := i0.2.2; (try clear fi1); (try clear zi1); (try clear ci1); clear i1; have i1 := i1'; clear i1'; have ci1 := i1.1; have fi1 := i1.2.1; have zi1 := i1.2.2) | (go_at_call 53; (with_reducible refine (slideRow_any _ HR.out _).mono ?_); rintro e w2 ⟨rfl, hb2⟩; have hB' : Below w.heap.size w w2 := below_go (by repeat (first | (with_reducible exact Below.refl _ _) | (with_reducible assumption) | (with_reducible refine below_go ?_ (by with_reducible assumption)) | (with_reducible refine below_new ?_ _) | ((with_reducible refine below_put ?_ ?_ _); rotate_left; (dsimp only; omega)) | (with_reducible refine Below.drew ?_) | (with_reducible refine below_dn ?_ _))) hb2; have i0' : Has w2 (w.heap.size) 4 _ := Has.call (by repeat (first | (with_reducible assumption) | (with_reducible apply Has.set) | ((with_reducible apply Has.other); (case hne => (dsimp only; omega))) | (with_reducible apply Has.alloc) | (with_reducible apply Has.drew) | (with_reducible apply Has.drewN))) hb2; have i1' : Has w2 (w.heap.size + 1) 4 _ := Has.call (by repeat (first | (with_reducible assumption) | (with_reducible apply Has.set) | ((with_reducible apply Has.other); (case hne => (dsimp only; omega))) | (with_reducible apply Has.alloc) | (with_reducible apply Has.drew) | (with_reducible apply Has.drewN))) hb2; clear hB hb2; have hB := hB'; clear hB'; (try clear fi0); (try clear zi0); (try clear ci0); clear i0; have i0 := i0'; clear i0'; have ci0 := i0.1; have fi0 := i0.2.1; have zi0 := i0.2.2; (try clear fi1); (try clear zi1); (try clear ci1); clear i1; have i1 := i1'; clear i1'; have ci1 := i1.1; have fi1 := i1.2.1; have zi1 := i1.2.2))
  refine (turned_fn (SR.slid (turnR r)).out _).mono ?_
  rintro e w3 ⟨rfl, hb3⟩
  have q1 := (i1.alloc _).alloc _ |>.call hb3
  have hB3 := below_go (below_new (below_new hB _) _) hb3
  have cq1 := q1.1; have fq1 := q1.2.1; have zq1 := q1.2.2
  go_wp2
  refine bodyPost_ret (results_cell_t rfl rfl (loadVar_A4 (Has.set (Has.set (Has.set (Has.set q1)))) (by omega))) rfl ⟨rfl, (by repeat (first | (with_reducible exact Below.refl _ _) | (with_reducible assumption) | (with_reducible refine below_go ?_ (by with_reducible assumption)) | (with_reducible refine below_new ?_ _) | ((with_reducible refine below_put ?_ ?_ _); rotate_left; (dsimp only; omega)) | (with_reducible refine Below.drew ?_) | (with_reducible refine below_dn ?_ _)))⟩

theorem run_max (P : Program) (ts : Array TypeId) (t : TypeId) (a b : Int) (w : World) : (Builtin.max_ ts t #[.int .i64 a, .int .i64 b]).run P w = .ok (.int .i64 (max a b)) w := by
  have e : (if b > a then b else a) = max a b := by split <;> omega
  show (Builtin.max2 (.int .i64 a) (.int .i64 b)).run P w = _
  rw [← e]; rfl
attribute [go_sem] run_max

theorem l1Most_any (a b : Int) (w : World) : Calls Try.prog 77 #[.int .i64 a, .int .i64 b] w fun e w' => e = .returned (.int .i64 (max a b)) ∧ w = w' := by
  go_enter Try.func77, Try.ntmps77
  go_wp2
  all_goals
    go_ret
    exact ⟨ret_int (by omega), rfl⟩

theorem best_zero {r : Nat → Int} (h : (SR.slid r).score = 0) (f : Nat) : bestL (f + 1) r = 0 := by simp [bestL, h]

set_option maxHeartbeats 4000000 in
set_option maxRecDepth 100000 in
theorem mostScore_any : ∀ (f : Nat) (r : Nat → Int) (_hr : ∀ i, i < 4 → 0 ≤ r i ∧ r i ≤ 17) (_hf : f ≤ 4) (_hl : (tilesL r).length ≤ f) (w : World),
    Calls Try.prog 51 #[.agg #[.int .i64 (r 0), .int .i64 (r 1), .int .i64 (r 2), .int .i64 (r 3)]] w fun e w' => e = .returned (.int .i64 (bestL (f + 1) r)) ∧ Below w.heap.size w w' := by
  intro f
  induction f with
  | zero =>
    intro r hr hf hl w
    have hsc : (SR.slid r).score = 0 := (slid_score_zero hr).2 (by have := SR.slid_n_le hr; omega)
    rw [best_zero hsc]
    have HR := hide hr
    clear hr
    go_enter Try.func51, Try.ntmps51
    go_wp2_with fail
    generalize hW : w.alloc _ = w1
    have hB : Below w.heap.size w w1 := by (rw [← hW]; exact (by repeat (first | (with_reducible exact Below.refl _ _) | (with_reducible assumption) | (with_reducible refine below_go ?_ (by with_reducible assumption)) | (with_reducible refine below_new ?_ _) | ((with_reducible refine below_put ?_ ?_ _); rotate_left; (dsimp only; omega)) | (with_reducible refine Below.drew ?_) | (with_reducible refine below_dn ?_ _))))
    have hsz : Hid (w1.heap.size = w.heap.size + 1) := hide (by rw [← hW]; simp)
    have i0 : Has w1 (w.heap.size) 4 (fun o => .int .i64 (r o)) := by (rw [← hW]; repeat (first | (refine Has.new ?_ rfl; simp; done) | refine Has.alloc ?_ _))
    have ci0 := i0.1; have fi0 := i0.2.1; have zi0 := i0.2.2
    clear hW
    go_wp2_with (first | (go_at_call 53; (with_reducible refine (slideRow_any _ HR.out _).mono ?_); rintro e w2 ⟨rfl, hb2⟩; have hB' : Below w.heap.size w w2 := below_go (by repeat (first | (with_reducible exact Below.refl _ _) | (with_reducible assumption) | (with_reducible refine below_go ?_ (by with_reducible assumption)) | (with_reducible refine below_new ?_ _) | ((with_reducible refine below_put ?_ ?_ _); rotate_left; (dsimp only; omega)) | (with_reducible refine Below.drew ?_) | (with_reducible refine below_dn ?_ _))) hb2; have i0' : Has w2 (w.heap.size) 4 _ := Has.call (by repeat (first | (with_reducible assumption) | (with_reducible apply Has.set) | ((with_reducible apply Has.other); (case hne => (dsimp only; omega))) | (with_reducible apply Has.alloc) | (with_reducible apply Has.drew) | (with_reducible apply Has.drewN))) hb2; clear hB hb2; have hB := hB'; clear hB'; (try clear fi0); (try clear zi0); (try clear ci0); clear i0; have i0 := i0'; clear i0'; have ci0 := i0.1; have fi0 := i0.2.1; have zi0 := i0.2.2) | (go_at_call 60; (with_reducible refine (slideBack_any _ HR.out _).mono ?_); rintro e w2 ⟨rfl, hb2⟩; have hB' : Below w.heap.size w w2 := below_go (by repeat (first | (with_reducible exact Below.refl _ _) | (with_reducible assumption) | (with_reducible refine below_go ?_ (by with_reducible assumption)) | (with_reducible refine below_new ?_ _) | ((with_reducible refine below_put ?_ ?_ _); rotate_left; (dsimp only; omega)) | (with_reducible refine Below.drew ?_) | (with_reducible refine below_dn ?_ _))) hb2; have i0' : Has w2 (w.heap.size) 4 _ := Has.call (by repeat (first | (with_reducible assumption) | (with_reducible apply Has.set) | ((with_reducible apply Has.other); (case hne => (dsimp only; omega))) | (with_reducible apply Has.alloc) | (with_reducible apply Has.drew) | (with_reducible apply Has.drewN))) hb2; clear hB hb2; have hB := hB'; clear hB'; (try clear fi0); (try clear zi0); (try clear ci0); clear i0; have i0 := i0'; clear i0'; have ci0 := i0.1; have fi0 := i0.2.1; have zi0 := i0.2.2))
    go_ret
    exact ⟨rfl, (by repeat (first | (with_reducible exact Below.refl _ _) | (with_reducible assumption) | (with_reducible refine below_go ?_ (by with_reducible assumption)) | (with_reducible refine below_new ?_ _) | ((with_reducible refine below_put ?_ ?_ _); rotate_left; (dsimp only; omega)) | (with_reducible refine Below.drew ?_) | (with_reducible refine below_dn ?_ _)))⟩
  | succ f ih =>
    intro r hr hf hl w
    by_cases hsc : (SR.slid r).score = 0
    · rw [best_zero hsc]
      have HR := hide hr
      clear hr ih
      go_enter Try.func51, Try.ntmps51
      go_wp2_with fail
      generalize hW : w.alloc _ = w1
      have hB : Below w.heap.size w w1 := by (rw [← hW]; exact (by repeat (first | (with_reducible exact Below.refl _ _) | (with_reducible assumption) | (with_reducible refine below_go ?_ (by with_reducible assumption)) | (with_reducible refine below_new ?_ _) | ((with_reducible refine below_put ?_ ?_ _); rotate_left; (dsimp only; omega)) | (with_reducible refine Below.drew ?_) | (with_reducible refine below_dn ?_ _))))
      have hsz : Hid (w1.heap.size = w.heap.size + 1) := hide (by rw [← hW]; simp)
      have i0 : Has w1 (w.heap.size) 4 (fun o => .int .i64 (r o)) := by (rw [← hW]; repeat (first | (refine Has.new ?_ rfl; simp; done) | refine Has.alloc ?_ _))
      have ci0 := i0.1; have fi0 := i0.2.1; have zi0 := i0.2.2
      clear hW
      go_wp2_with (first | (go_at_call 53; (with_reducible refine (slideRow_any _ HR.out _).mono ?_); rintro e w2 ⟨rfl, hb2⟩; have hB' : Below w.heap.size w w2 := below_go (by repeat (first | (with_reducible exact Below.refl _ _) | (with_reducible assumption) | (with_reducible refine below_go ?_ (by with_reducible assumption)) | (with_reducible refine below_new ?_ _) | ((with_reducible refine below_put ?_ ?_ _); rotate_left; (dsimp only; omega)) | (with_reducible refine Below.drew ?_) | (with_reducible refine below_dn ?_ _))) hb2; have i0' : Has w2 (w.heap.size) 4 _ := Has.call (by repeat (first | (with_reducible assumption) | (with_reducible apply Has.set) | ((with_reducible apply Has.other); (case hne => (dsimp only; omega))) | (with_reducible apply Has.alloc) | (with_reducible apply Has.drew) | (with_reducible apply Has.drewN))) hb2; clear hB hb2; have hB := hB'; clear hB'; (try clear fi0); (try clear zi0); (try clear ci0); clear i0; have i0 := i0'; clear i0'; have ci0 := i0.1; have fi0 := i0.2.1; have zi0 := i0.2.2) | (go_at_call 60; (with_reducible refine (slideBack_any _ HR.out _).mono ?_); rintro e w2 ⟨rfl, hb2⟩; have hB' : Below w.heap.size w w2 := below_go (by repeat (first | (with_reducible exact Below.refl _ _) | (with_reducible assumption) | (with_reducible refine below_go ?_ (by with_reducible assumption)) | (with_reducible refine below_new ?_ _) | ((with_reducible refine below_put ?_ ?_ _); rotate_left; (dsimp only; omega)) | (with_reducible refine Below.drew ?_) | (with_reducible refine below_dn ?_ _))) hb2; have i0' : Has w2 (w.heap.size) 4 _ := Has.call (by repeat (first | (with_reducible assumption) | (with_reducible apply Has.set) | ((with_reducible apply Has.other); (case hne => (dsimp only; omega))) | (with_reducible apply Has.alloc) | (with_reducible apply Has.drew) | (with_reducible apply Has.drewN))) hb2; clear hB hb2; have hB := hB'; clear hB'; (try clear fi0); (try clear zi0); (try clear ci0); clear i0; have i0 := i0'; clear i0'; have ci0 := i0.1; have fi0 := i0.2.1; have zi0 := i0.2.2))
      go_ret
      exact ⟨rfl, (by repeat (first | (with_reducible exact Below.refl _ _) | (with_reducible assumption) | (with_reducible refine below_go ?_ (by with_reducible assumption)) | (with_reducible refine below_new ?_ _) | ((with_reducible refine below_put ?_ ?_ _); rotate_left; (dsimp only; omega)) | (with_reducible refine Below.drew ?_) | (with_reducible refine below_dn ?_ _)))⟩
    · have e1 : bestL (f + 1 + 1) r = max ((SR.slid r).score + bestL (f + 1) (SR.slid r).out) ((SR.slid (turnR r)).score + bestL (f + 1) (SR.slid (turnR r)).out) := by rw [bestL, if_neg hsc]
      have hr2 := turnR_in hr
      have hsc2 : (SR.slid (turnR r)).score ≠ 0 := fun h => hsc ((score_turn hr).1 h)
      have l1 := slid_less hr hsc
      have l2 := slid_less hr2 hsc2
      rw [tilesL_turn, List.length_reverse] at l2
      have HL := hide (ih (SR.slid r).out (slid_in' hr) (by omega) (by omega))
      have HT := hide (ih (turnR (SR.slid (turnR r)).out) (turnR_in (slid_in' hr2)) (by omega) (by rw [tilesL_turn, List.length_reverse]; omega))
      rw [bestL_turn (slid_in' hr2)] at HT
      have b1 := bestL_le (slid_in' hr) (f + 1)
      have b2 := bestL_le (slid_in' hr2) (f + 1)
      have o1 := SR.slid_ok hr
      have o2 := SR.slid_ok hr2
      have := o1.lo; have := o1.hi; have := o2.lo; have := o2.hi
      have s1 : IntKind.i64.wrap ((SR.slid r).score + bestL (f + 1) (SR.slid r).out) = (SR.slid r).score + bestL (f + 1) (SR.slid r).out := IntWalk.i64_in _ (by omega)
      have s2 : IntKind.i64.wrap ((SR.slid (turnR r)).score + bestL (f + 1) (SR.slid (turnR r)).out) = (SR.slid (turnR r)).score + bestL (f + 1) (SR.slid (turnR r)).out := IntWalk.i64_in _ (by omega)
      rw [e1]
      have HR := hide hr
      have T1 := hide s1
      have T2 := hide s2
      have hne : ((SR.slid r).score == 0) = false := by simpa using hsc
      clear hr ih hr2 o1 o2 s1 s2 hsc hsc2 e1 l1 l2
      generalize bestL (f + 1) (SR.slid r).out = x1 at *
      generalize bestL (f + 1) (SR.slid (turnR r)).out = x2 at *
      go_enter Try.func51, Try.ntmps51
      go_wp2_with fail
      generalize hW : w.alloc _ = w1
      have hB : Below w.heap.size w w1 := by (rw [← hW]; exact (by repeat (first | (with_reducible exact Below.refl _ _) | (with_reducible assumption) | (with_reducible refine below_go ?_ (by with_reducible assumption)) | (with_reducible refine below_new ?_ _) | ((with_reducible refine below_put ?_ ?_ _); rotate_left; (dsimp only; omega)) | (with_reducible refine Below.drew ?_) | (with_reducible refine below_dn ?_ _))))
      have hsz : Hid (w1.heap.size = w.heap.size + 1) := hide (by rw [← hW]; simp)
      have i0 : Has w1 (w.heap.size) 4 (fun o => .int .i64 (r o)) := by (rw [← hW]; repeat (first | (refine Has.new ?_ rfl; simp; done) | refine Has.alloc ?_ _))
      have ci0 := i0.1; have fi0 := i0.2.1; have zi0 := i0.2.2
      clear hW
      go_wp2_with (first | (go_at_call 53; (with_reducible refine (slideRow_any _ HR.out _).mono ?_); rintro e w2 ⟨rfl, hb2⟩; have hB' : Below w.heap.size w w2 := below_go (by repeat (first | (with_reducible exact Below.refl _ _) | (with_reducible assumption) | (with_reducible refine below_go ?_ (by with_reducible assumption)) | (with_reducible refine below_new ?_ _) | ((with_reducible refine below_put ?_ ?_ _); rotate_left; (dsimp only; omega)) | (with_reducible refine Below.drew ?_) | (with_reducible refine below_dn ?_ _))) hb2; have i0' : Has w2 (w.heap.size) 4 _ := Has.call (by repeat (first | (with_reducible assumption) | (with_reducible apply Has.set) | ((with_reducible apply Has.other); (case hne => (dsimp only; omega))) | (with_reducible apply Has.alloc) | (with_reducible apply Has.drew) | (with_reducible apply Has.drewN))) hb2; clear hB hb2; have hB := hB'; clear hB'; (try clear fi0); (try clear zi0); (try clear ci0); clear i0; have i0 := i0'; clear i0'; have ci0 := i0.1; have fi0 := i0.2.1; have zi0 := i0.2.2))
      generalize hW : (World.alloc (World.alloc w2 _) _) = w1
      have hB' : Below w.heap.size w w1 := by (rw [← hW]; exact (by repeat (first | (with_reducible exact Below.refl _ _) | (with_reducible assumption) | (with_reducible refine below_go ?_ (by with_reducible assumption)) | (with_reducible refine below_new ?_ _) | ((with_reducible refine below_put ?_ ?_ _); rotate_left; (dsimp only; omega)) | (with_reducible refine Below.drew ?_) | (with_reducible refine below_dn ?_ _))))
      have i0' := Has.at hW (B := w.heap.size) (n := 4) (by repeat (first | (with_reducible assumption) | (with_reducible apply Has.set) | ((with_reducible apply Has.other); (case hne => (dsimp only; omega))) | (with_reducible apply Has.alloc) | (with_reducible apply Has.drew) | (with_reducible apply Has.drewN)))
      have j0 := Has.at hW (n := 4) (Has.alloc (Has.new' rfl) _)
      try simp only [World.size_alloc] at j0
      clear hW; clear hB; have hB := hB'; clear hB'; (try clear fi0); (try clear zi0); (try clear ci0); clear i0; have i0 := i0'; clear i0'; have ci0 := i0.1; have fi0 := i0.2.1; have zi0 := i0.2.2; have cj0 := j0.1; have fj0 := j0.2.1; have zj0 := j0.2.2
      generalize hS : w2.heap.size = B1 at *
      clear hS
      go_wp2_with (first | (go_at_call 60; (with_reducible refine (slideBack_any _ HR.out _).mono ?_); rintro e w2 ⟨rfl, hb2⟩; have hB' : Below w.heap.size w w2 := below_go (by repeat (first | (with_reducible exact Below.refl _ _) | (with_reducible assumption) | (with_reducible refine below_go ?_ (by with_reducible assumption)) | (with_reducible refine below_new ?_ _) | ((with_reducible refine below_put ?_ ?_ _); rotate_left; (dsimp only; omega)) | (with_reducible refine Below.drew ?_) | (with_reducible refine below_dn ?_ _))) hb2; have i0' : Has w2 (w.heap.size) 4 _ := Has.call (by repeat (first | (with_reducible assumption) | (with_reducible apply Has.set) | ((with_reducible apply Has.other); (case hne => (dsimp only; omega))) | (with_reducible apply Has.alloc) | (with_reducible apply Has.drew) | (with_reducible apply Has.drewN))) hb2; have j0' : Has w2 (B1) 4 _ := Has.call (by repeat (first | (with_reducible assumption) | (with_reducible apply Has.set) | ((with_reducible apply Has.other); (case hne => (dsimp only; omega))) | (with_reducible apply Has.alloc) | (with_reducible apply Has.drew) | (with_reducible apply Has.drewN))) hb2; clear hB hb2; have hB := hB'; clear hB'; (try clear fi0); (try clear zi0); (try clear ci0); clear i0; have i0 := i0'; clear i0'; have ci0 := i0.1; have fi0 := i0.2.1; have zi0 := i0.2.2; (try clear fj0); (try clear zj0); (try clear cj0); clear j0; have j0 := j0'; clear j0'; have cj0 := j0.1; have fj0 := j0.2.1; have zj0 := j0.2.2))
      generalize hW : (World.alloc w2 _) = w1
      have hB' : Below w.heap.size w w1 := by (rw [← hW]; exact (by repeat (first | (with_reducible exact Below.refl _ _) | (with_reducible assumption) | (with_reducible refine below_go ?_ (by with_reducible assumption)) | (with_reducible refine below_new ?_ _) | ((with_reducible refine below_put ?_ ?_ _); rotate_left; (dsimp only; omega)) | (with_reducible refine Below.drew ?_) | (with_reducible refine below_dn ?_ _))))
      have i0' := Has.at hW (B := w.heap.size) (n := 4) (by repeat (first | (with_reducible assumption) | (with_reducible apply Has.set) | ((with_reducible apply Has.other); (case hne => (dsimp only; omega))) | (with_reducible apply Has.alloc) | (with_reducible apply Has.drew) | (with_reducible apply Has.drewN)))
      have j0' := Has.at hW (B := B1) (n := 4) (by repeat (first | (with_reducible assumption) | (with_reducible apply Has.set) | ((with_reducible apply Has.other); (case hne => (dsimp only; omega))) | (with_reducible apply Has.alloc) | (with_reducible apply Has.drew) | (with_reducible apply Has.drewN)))
      have k0 := Has.at hW (n := 4) (Has.new' rfl)
      try simp only [World.size_alloc] at k0
      clear hW; clear hB; have hB := hB'; clear hB'; (try clear fi0); (try clear zi0); (try clear ci0); clear i0; have i0 := i0'; clear i0'; have ci0 := i0.1; have fi0 := i0.2.1; have zi0 := i0.2.2; (try clear fj0); (try clear zj0); (try clear cj0); clear j0; have j0 := j0'; clear j0'; have cj0 := j0.1; have fj0 := j0.2.1; have zj0 := j0.2.2; have ck0 := k0.1; have fk0 := k0.2.1; have zk0 := k0.2.2
      generalize hS : w2.heap.size = B3 at *
      clear hS
      go_region_with (first | (go_at_call 51; (with_reducible refine (HL.out _).mono ?_); rintro e w2 ⟨rfl, hb2⟩; have hB' : Below w.heap.size w w2 := below_go (by repeat (first | (with_reducible exact Below.refl _ _) | (with_reducible assumption) | (with_reducible refine below_go ?_ (by with_reducible assumption)) | (with_reducible refine below_new ?_ _) | ((with_reducible refine below_put ?_ ?_ _); rotate_left; (dsimp only; omega)) | (with_reducible refine Below.drew ?_) | (with_reducible refine below_dn ?_ _))) hb2; have i0' : Has w2 (w.heap.size) 4 _ := Has.call (by repeat (first | (with_reducible assumption) | (with_reducible apply Has.set) | ((with_reducible apply Has.other); (case hne => (dsimp only; omega))) | (with_reducible apply Has.alloc) | (with_reducible apply Has.drew) | (with_reducible apply Has.drewN))) hb2; have j0' : Has w2 (B1) 4 _ := Has.call (by repeat (first | (with_reducible assumption) | (with_reducible apply Has.set) | ((with_reducible apply Has.other); (case hne => (dsimp only; omega))) | (with_reducible apply Has.alloc) | (with_reducible apply Has.drew) | (with_reducible apply Has.drewN))) hb2; have k0' : Has w2 (B3) 4 _ := Has.call (by repeat (first | (with_reducible assumption) | (with_reducible apply Has.set) | ((with_reducible apply Has.other); (case hne => (dsimp only; omega))) | (with_reducible apply Has.alloc) | (with_reducible apply Has.drew) | (with_reducible apply Has.drewN))) hb2; clear hB hb2; have hB := hB'; clear hB'; (try clear fi0); (try clear zi0); (try clear ci0); clear i0; have i0 := i0'; clear i0'; have ci0 := i0.1; have fi0 := i0.2.1; have zi0 := i0.2.2; (try clear fj0); (try clear zj0); (try clear cj0); clear j0; have j0 := j0'; clear j0'; have cj0 := j0.1; have fj0 := j0.2.1; have zj0 := j0.2.2; (try clear fk0); (try clear zk0); (try clear ck0); clear k0; have k0 := k0'; clear k0'; have ck0 := k0.1; have fk0 := k0.2.1; have zk0 := k0.2.2) | (go_at_call 51; (with_reducible refine (HT.out _).mono ?_); rintro e w2 ⟨rfl, hb2⟩; have hB' : Below w.heap.size w w2 := below_go (by repeat (first | (with_reducible exact Below.refl _ _) | (with_reducible assumption) | (with_reducible refine below_go ?_ (by with_reducible assumption)) | (with_reducible refine below_new ?_ _) | ((with_reducible refine below_put ?_ ?_ _); rotate_left; (dsimp only; omega)) | (with_reducible refine Below.drew ?_) | (with_reducible refine below_dn ?_ _))) hb2; have i0' : Has w2 (w.heap.size) 4 _ := Has.call (by repeat (first | (with_reducible assumption) | (with_reducible apply Has.set) | ((with_reducible apply Has.other); (case hne => (dsimp only; omega))) | (with_reducible apply Has.alloc) | (with_reducible apply Has.drew) | (with_reducible apply Has.drewN))) hb2; have j0' : Has w2 (B1) 4 _ := Has.call (by repeat (first | (with_reducible assumption) | (with_reducible apply Has.set) | ((with_reducible apply Has.other); (case hne => (dsimp only; omega))) | (with_reducible apply Has.alloc) | (with_reducible apply Has.drew) | (with_reducible apply Has.drewN))) hb2; have k0' : Has w2 (B3) 4 _ := Has.call (by repeat (first | (with_reducible assumption) | (with_reducible apply Has.set) | ((with_reducible apply Has.other); (case hne => (dsimp only; omega))) | (with_reducible apply Has.alloc) | (with_reducible apply Has.drew) | (with_reducible apply Has.drewN))) hb2; clear hB hb2; have hB := hB'; clear hB'; (try clear fi0); (try clear zi0); (try clear ci0); clear i0; have i0 := i0'; clear i0'; have ci0 := i0.1; have fi0 := i0.2.1; have zi0 := i0.2.2; (try clear fj0); (try clear zj0); (try clear cj0); clear j0; have j0 := j0'; clear j0'; have cj0 := j0.1; have fj0 := j0.2.1; have zj0 := j0.2.2; (try clear fk0); (try clear zk0); (try clear ck0); clear k0; have k0 := k0'; clear k0'; have ck0 := k0.1; have fk0 := k0.2.1; have zk0 := k0.2.2))
      all_goals go_wp2
      all_goals
        go_ret
        exact ⟨ret_int (by have t1 := T1.out; have t2 := T2.out; omega), (by repeat (first | (with_reducible exact Below.refl _ _) | (with_reducible assumption) | (with_reducible refine below_go ?_ (by with_reducible assumption)) | (with_reducible refine below_new ?_ _) | ((with_reducible refine below_put ?_ ?_ _); rotate_left; (dsimp only; omega)) | (with_reducible refine Below.drew ?_) | (with_reducible refine below_dn ?_ _)))⟩

end Go.Proofs.Ytmbmknpjmkgjlaa
