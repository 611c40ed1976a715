/-
  Contracts: IsSymmetricRow, the program's and the reference's.
-/
import Derived.Test.YtjmkmoicjhgfiaaBest
import Derived.Test.YtjmkmoicjhgfiaaRow6
namespace Go.Proofs.Ytjmkmoicjhgfiaa
open Go.RowKit

theorem ret_bb {a b p : Bool} (h : a = b) : Ending.returned (.tuple #[.bool a, .bool p]) = .returned (.tuple #[.bool b, .bool p]) := by rw [h]

theorem tiles_f (r f : Nat → Int) (m : Nat) (hm : (tilesL r).length = m) (hf : ∀ i, i < m → f i = (tilesL r).getD i 0) (w : World) : Calls Try.prog 68 #[.agg #[.int .i64 (r 0), .int .i64 (r 1), .int .i64 (r 2), .int .i64 (r 3)]] w fun e w' => ∃ A cap, e = .returned (.slice A m cap) ∧ Sl w' w.heap.size A m (fun i => .int .i64 (f i)) ∧ Below w.heap.size w w' := by
  subst hm
  exact (tiles_any r w).mono fun e w' ⟨A, cap, he, hS, hb⟩ => ⟨A, cap, he, hS.congr (fun o ho => by rw [hf o ho]), hb⟩

set_option maxHeartbeats 1000000 in
theorem equal_ne (A1 A2 : Option Addr) (n m c1 c2 : Nat) (hne : n ≠ m) (_hn : n ≤ 65536) (_hm : m ≤ 65536) (w : World) :
    Calls Try.prog 73 #[.slice A1 n c1, .slice A2 m c2] w fun e w' => e = .returned (.bool false) ∧ Below w.heap.size w w' := by
  have h1 : ((n : Int) == (m : Int)) = false := beq_eq_false_iff_ne.2 (by omega)
  have h2 : ((n : Int) != (m : Int)) = true := by simp [bne, h1]
  go_enter Try.func73, Try.ntmps73
  go_wp2
  go_ret
  exact ⟨rfl, (by repeat (first | (with_reducible exact Below.refl _ _) | (with_reducible assumption) | (with_reducible refine below_go ?_ (by with_reducible assumption)) | (with_reducible refine below_new ?_ _) | ((with_reducible refine below_put ?_ ?_ _); rotate_left; (dsimp only; omega)) | (with_reducible refine Below.drew ?_) | (with_reducible refine below_dn ?_ _)))⟩

theorem tilesL_getD {r : Nat → Int} (hr : ∀ i, i < 4 → 0 ≤ r i ∧ r i ≤ 17) {k : Nat} (hk : k < (tilesL (SR.slid r).out).length) : (SR.slid r).out k = (tilesL (SR.slid r).out).getD k 0 := by
  have e := slid_len hr
  rw [slid_tilesL hr]
  rw [e] at hk
  simp [hk]
theorem rev_getD (l : List Int) {k : Nat} (hk : k < l.length) : l.reverse.getD k 0 = l.getD (l.length - 1 - k) 0 := by
  simp only [List.getD]
  rw [List.getElem?_reverse hk]

set_option maxHeartbeats 4000000 in
set_option maxRecDepth 100000 in
theorem isSymmetricRow_any (r : Nat → Int) (w : World) : Calls Try.prog 39 #[.agg #[.int .i64 (r 0), .int .i64 (r 1), .int .i64 (r 2), .int .i64 (r 3)]] w fun e w' => e = .returned (.tuple #[.bool (rowB (r 0) (r 1) (r 2) (r 3) && symB r), .bool (rowB (r 0) (r 1) (r 2) (r 3))]) ∧ Below w.heap.size w w' := by
  cases h : rowB (r 0) (r 1) (r 2) (r 3)
  · simp only [Bool.false_and]
    go_enter Try.func39, Try.ntmps39
    go_wp2_with fail
    generalize hW : w.alloc _ = w1
    have hB : Below w.heap.size w w1 := by (rw [← hW]; exact (by repeat (first | (with_reducible exact Below.refl _ _) | (with_reducible assumption) | (with_reducible refine below_go ?_ (by with_reducible assumption)) | (with_reducible refine below_new ?_ _) | ((with_reducible refine below_put ?_ ?_ _); rotate_left; (dsimp only; omega)) | (with_reducible refine Below.drew ?_) | (with_reducible refine below_dn ?_ _))))
    have hsz : Hid (w1.heap.size = w.heap.size + 1) := hide (by rw [← hW]; simp)
    have i0 : Has w1 (w.heap.size) 4 (fun o => .int .i64 (r o)) := by (rw [← hW]; repeat (first | (refine Has.new ?_ rfl; simp; done) | refine Has.alloc ?_ _))
    have ci0 := i0.1; have fi0 := i0.2.1; have zi0 := i0.2.2
    clear hW
    go_wp2_with (first | (go_at_call 23; (with_reducible refine (isRow_any _ _ _ _ _).mono ?_); rintro e w2 ⟨rfl, hb2⟩; have hB' : Below w.heap.size w w2 := below_go (by repeat (first | (with_reducible exact Below.refl _ _) | (with_reducible assumption) | (with_reducible refine below_go ?_ (by with_reducible assumption)) | (with_reducible refine below_new ?_ _) | ((with_reducible refine below_put ?_ ?_ _); rotate_left; (dsimp only; omega)) | (with_reducible refine Below.drew ?_) | (with_reducible refine below_dn ?_ _))) hb2; have i0' : Has w2 (w.heap.size) 4 _ := Has.call (by repeat (first | (with_reducible assumption) | (with_reducible apply Has.set) | ((with_reducible apply Has.other); (case hne => (dsimp only; omega))) | (with_reducible apply Has.alloc) | (with_reducible apply Has.drew) | (with_reducible apply Has.drewN))) hb2; clear hB hb2; have hB := hB'; clear hB'; clear i0 fi0 zi0; (try clear ci0); have i0 := i0'; clear i0'; have ci0 := i0.1; have fi0 := i0.2.1; have zi0 := i0.2.2))
    go_ret2
    exact ⟨rfl, (by repeat (first | (with_reducible exact Below.refl _ _) | (with_reducible assumption) | (with_reducible refine below_go ?_ (by with_reducible assumption)) | (with_reducible refine below_new ?_ _) | ((with_reducible refine below_put ?_ ?_ _); rotate_left; (dsimp only; omega)) | (with_reducible refine Below.drew ?_) | (with_reducible refine below_dn ?_ _)))⟩
  · simp only [Bool.true_and]
    have hr := rowB_in h
    have hr2 := turnR_in hr
    have T1 := hide fun w => tiles_f (SR.slid r).out (SR.slid r).out _ rfl (fun i hi => tilesL_getD hr hi) w
    obtain ⟨f2, e2⟩ : ∃ f2 : Nat → Int, ∀ k, f2 k = (SR.slid (turnR r)).out ((tilesL (SR.slid (turnR r)).out).length - 1 - k) := ⟨_, fun _ => rfl⟩
    have T2 := hide fun w => tiles_f (turnR (SR.slid (turnR r)).out) f2 (tilesL (SR.slid (turnR r)).out).length (by rw [tilesL_turn, List.length_reverse]) (fun i hi => by rw [e2, tilesL_turn, rev_getD _ hi, tilesL_getD hr2 (by omega)]) w
    have l1 := tilesL_len (SR.slid r).out
    have l2 := tilesL_len (SR.slid (turnR r)).out
    have hsym : symB r = (decide ((tilesL (SR.slid r).out).length = (tilesL (SR.slid (turnR r)).out).length) && allEq (SR.slid r).out f2 (tilesL (SR.slid (turnR r)).out).length) := by simp only [symB, allEq, e2]
    rw [hsym]
    have HR := hide hr
    clear hr hr2 hsym e2
    generalize (tilesL (SR.slid r).out).length = m1 at *
    generalize (tilesL (SR.slid (turnR r)).out).length = m2 at *
    by_cases hm : m1 = m2
    · subst hm
      rw [decide_eq_true rfl, Bool.true_and]
      go_enter Try.func39, Try.ntmps39
      go_wp2_with fail
      generalize hW : w.alloc _ = w1
      have hB : Below w.heap.size w w1 := by (rw [← hW]; exact (by repeat (first | (with_reducible exact Below.refl _ _) | (with_reducible assumption) | (with_reducible refine below_go ?_ (by with_reducible assumption)) | (with_reducible refine below_new ?_ _) | ((with_reducible refine below_put ?_ ?_ _); rotate_left; (dsimp only; omega)) | (with_reducible refine Below.drew ?_) | (with_reducible refine below_dn ?_ _))))
      have hsz : Hid (w1.heap.size = w.heap.size + 1) := hide (by rw [← hW]; simp)
      have i0 : Has w1 (w.heap.size) 4 (fun o => .int .i64 (r o)) := by (rw [← hW]; repeat (first | (refine Has.new ?_ rfl; simp; done) | refine Has.alloc ?_ _))
      have ci0 := i0.1; have fi0 := i0.2.1; have zi0 := i0.2.2
      clear hW
      go_wp2_with (first | (go_at_call 23; (with_reducible refine (isRow_any _ _ _ _ _).mono ?_); rintro e w2 ⟨rfl, hb2⟩; have hB' : Below w.heap.size w w2 := below_go (by repeat (first | (with_reducible exact Below.refl _ _) | (with_reducible assumption) | (with_reducible refine below_go ?_ (by with_reducible assumption)) | (with_reducible refine below_new ?_ _) | ((with_reducible refine below_put ?_ ?_ _); rotate_left; (dsimp only; omega)) | (with_reducible refine Below.drew ?_) | (with_reducible refine below_dn ?_ _))) hb2; have i0' : Has w2 (w.heap.size) 4 _ := Has.call (by repeat (first | (with_reducible assumption) | (with_reducible apply Has.set) | ((with_reducible apply Has.other); (case hne => (dsimp only; omega))) | (with_reducible apply Has.alloc) | (with_reducible apply Has.drew) | (with_reducible apply Has.drewN))) hb2; clear hB hb2; have hB := hB'; clear hB'; clear i0 fi0 zi0; (try clear ci0); have i0 := i0'; clear i0'; have ci0 := i0.1; have fi0 := i0.2.1; have zi0 := i0.2.2) | (go_at_call 66; (with_reducible refine (slideRow_any _ HR.out _).mono ?_); rintro e w2 ⟨rfl, hb2⟩; have hB' : Below w.heap.size w w2 := below_go (by repeat (first | (with_reducible exact Below.refl _ _) | (with_reducible assumption) | (with_reducible refine below_go ?_ (by with_reducible assumption)) | (with_reducible refine below_new ?_ _) | ((with_reducible refine below_put ?_ ?_ _); rotate_left; (dsimp only; omega)) | (with_reducible refine Below.drew ?_) | (with_reducible refine below_dn ?_ _))) hb2; have i0' : Has w2 (w.heap.size) 4 _ := Has.call (by repeat (first | (with_reducible assumption) | (with_reducible apply Has.set) | ((with_reducible apply Has.other); (case hne => (dsimp only; omega))) | (with_reducible apply Has.alloc) | (with_reducible apply Has.drew) | (with_reducible apply Has.drewN))) hb2; clear hB hb2; have hB := hB'; clear hB'; clear i0 fi0 zi0; (try clear ci0); have i0 := i0'; clear i0'; have ci0 := i0.1; have fi0 := i0.2.1; have zi0 := i0.2.2))
      generalize hW : (World.alloc (World.alloc w2 _) _) = w1
      have hB' : Below w.heap.size w w1 := by (rw [← hW]; exact (by repeat (first | (with_reducible exact Below.refl _ _) | (with_reducible assumption) | (with_reducible refine below_go ?_ (by with_reducible assumption)) | (with_reducible refine below_new ?_ _) | ((with_reducible refine below_put ?_ ?_ _); rotate_left; (dsimp only; omega)) | (with_reducible refine Below.drew ?_) | (with_reducible refine below_dn ?_ _))))
      have i0' := Has.at hW (B := w.heap.size) (n := 4) (by repeat (first | (with_reducible assumption) | (with_reducible apply Has.set) | ((with_reducible apply Has.other); (case hne => (dsimp only; omega))) | (with_reducible apply Has.alloc) | (with_reducible apply Has.drew) | (with_reducible apply Has.drewN)))
      have j0 := Has.at hW (n := 4) (Has.alloc (Has.new' rfl) _)
      try simp only [World.size_alloc] at j0
      clear hW; clear hB; have hB := hB'; clear hB'; clear i0 fi0 zi0; (try clear ci0); have i0 := i0'; clear i0'; have ci0 := i0.1; have fi0 := i0.2.1; have zi0 := i0.2.2; have cj0 := j0.1; have fj0 := j0.2.1; have zj0 := j0.2.2
      generalize hS : w2.heap.size = B1 at *
      clear hS
      go_wp2_with (first | (go_at_call 72; (with_reducible refine (slideBack_any _ HR.out _).mono ?_); rintro e w2 ⟨rfl, hb2⟩; have hB' : Below w.heap.size w w2 := below_go (by repeat (first | (with_reducible exact Below.refl _ _) | (with_reducible assumption) | (with_reducible refine below_go ?_ (by with_reducible assumption)) | (with_reducible refine below_new ?_ _) | ((with_reducible refine below_put ?_ ?_ _); rotate_left; (dsimp only; omega)) | (with_reducible refine Below.drew ?_) | (with_reducible refine below_dn ?_ _))) hb2; have i0' : Has w2 (w.heap.size) 4 _ := Has.call (by repeat (first | (with_reducible assumption) | (with_reducible apply Has.set) | ((with_reducible apply Has.other); (case hne => (dsimp only; omega))) | (with_reducible apply Has.alloc) | (with_reducible apply Has.drew) | (with_reducible apply Has.drewN))) hb2; have j0' : Has w2 (B1) 4 _ := Has.call (by repeat (first | (with_reducible assumption) | (with_reducible apply Has.set) | ((with_reducible apply Has.other); (case hne => (dsimp only; omega))) | (with_reducible apply Has.alloc) | (with_reducible apply Has.drew) | (with_reducible apply Has.drewN))) hb2; clear hB hb2; have hB := hB'; clear hB'; clear i0 fi0 zi0; (try clear ci0); have i0 := i0'; clear i0'; have ci0 := i0.1; have fi0 := i0.2.1; have zi0 := i0.2.2; clear j0 fj0 zj0; (try clear cj0); have j0 := j0'; clear j0'; have cj0 := j0.1; have fj0 := j0.2.1; have zj0 := j0.2.2))
      generalize hW : (World.alloc w2 _) = w1
      have hB' : Below w.heap.size w w1 := by (rw [← hW]; exact (by repeat (first | (with_reducible exact Below.refl _ _) | (with_reducible assumption) | (with_reducible refine below_go ?_ (by with_reducible assumption)) | (with_reducible refine below_new ?_ _) | ((with_reducible refine below_put ?_ ?_ _); rotate_left; (dsimp only; omega)) | (with_reducible refine Below.drew ?_) | (with_reducible refine below_dn ?_ _))))
      have i0' := Has.at hW (B := w.heap.size) (n := 4) (by repeat (first | (with_reducible assumption) | (with_reducible apply Has.set) | ((with_reducible apply Has.other); (case hne => (dsimp only; omega))) | (with_reducible apply Has.alloc) | (with_reducible apply Has.drew) | (with_reducible apply Has.drewN)))
      have j0' := Has.at hW (B := B1) (n := 4) (by repeat (first | (with_reducible assumption) | (with_reducible apply Has.set) | ((with_reducible apply Has.other); (case hne => (dsimp only; omega))) | (with_reducible apply Has.alloc) | (with_reducible apply Has.drew) | (with_reducible apply Has.drewN)))
      have k0 := Has.at hW (n := 4) (Has.new' rfl)
      try simp only [World.size_alloc] at k0
      clear hW; clear hB; have hB := hB'; clear hB'; clear i0 fi0 zi0; (try clear ci0); have i0 := i0'; clear i0'; have ci0 := i0.1; have fi0 := i0.2.1; have zi0 := i0.2.2; clear j0 fj0 zj0; (try clear cj0); have j0 := j0'; clear j0'; have cj0 := j0.1; have fj0 := j0.2.1; have zj0 := j0.2.2; have ck0 := k0.1; have fk0 := k0.2.1; have zk0 := k0.2.2
      generalize hS : w2.heap.size = B3 at *
      clear hS
      go_region_with (first
        | (go_at_call 68; (with_reducible refine (T1.out _).mono ?_); rintro e w2 ⟨A1, c1, rfl, hS1, hb2⟩; (try have hS2 := hS2.call hb2); have hB' : Below w.heap.size w w2 := below_go (by repeat (first | (with_reducible exact Below.refl _ _) | (with_reducible assumption) | (with_reducible refine below_go ?_ (by with_reducible assumption)) | (with_reducible refine below_new ?_ _) | ((with_reducible refine below_put ?_ ?_ _); rotate_left; (dsimp only; omega)) | (with_reducible refine Below.drew ?_) | (with_reducible refine below_dn ?_ _))) hb2; have i0' : Has w2 (w.heap.size) 4 _ := Has.call (by repeat (first | (with_reducible assumption) | (with_reducible apply Has.set) | ((with_reducible apply Has.other); (case hne => (dsimp only; omega))) | (with_reducible apply Has.alloc) | (with_reducible apply Has.drew) | (with_reducible apply Has.drewN))) hb2; have j0' : Has w2 (B1) 4 _ := Has.call (by repeat (first | (with_reducible assumption) | (with_reducible apply Has.set) | ((with_reducible apply Has.other); (case hne => (dsimp only; omega))) | (with_reducible apply Has.alloc) | (with_reducible apply Has.drew) | (with_reducible apply Has.drewN))) hb2; have k0' : Has w2 (B3) 4 _ := Has.call (by repeat (first | (with_reducible assumption) | (with_reducible apply Has.set) | ((with_reducible apply Has.other); (case hne => (dsimp only; omega))) | (with_reducible apply Has.alloc) | (with_reducible apply Has.drew) | (with_reducible apply Has.drewN))) hb2; clear hB hb2; have hB := hB'; clear hB'; clear i0 fi0 zi0; (try clear ci0); have i0 := i0'; clear i0'; have ci0 := i0.1; have fi0 := i0.2.1; have zi0 := i0.2.2; clear j0 fj0 zj0; (try clear cj0); have j0 := j0'; clear j0'; have cj0 := j0.1; have fj0 := j0.2.1; have zj0 := j0.2.2; clear k0 fk0 zk0; (try clear ck0); have k0 := k0'; clear k0'; have ck0 := k0.1; have fk0 := k0.2.1; have zk0 := k0.2.2)
        | (go_at_call 68; (with_reducible refine (T2.out _).mono ?_); rintro e w2 ⟨A2, c2, rfl, hS2, hb2⟩; (try have hS1 := hS1.call hb2); have hB' : Below w.heap.size w w2 := below_go (by repeat (first | (with_reducible exact Below.refl _ _) | (with_reducible assumption) | (with_reducible refine below_go ?_ (by with_reducible assumption)) | (with_reducible refine below_new ?_ _) | ((with_reducible refine below_put ?_ ?_ _); rotate_left; (dsimp only; omega)) | (with_reducible refine Below.drew ?_) | (with_reducible refine below_dn ?_ _))) hb2; have i0' : Has w2 (w.heap.size) 4 _ := Has.call (by repeat (first | (with_reducible assumption) | (with_reducible apply Has.set) | ((with_reducible apply Has.other); (case hne => (dsimp only; omega))) | (with_reducible apply Has.alloc) | (with_reducible apply Has.drew) | (with_reducible apply Has.drewN))) hb2; have j0' : Has w2 (B1) 4 _ := Has.call (by repeat (first | (with_reducible assumption) | (with_reducible apply Has.set) | ((with_reducible apply Has.other); (case hne => (dsimp only; omega))) | (with_reducible apply Has.alloc) | (with_reducible apply Has.drew) | (with_reducible apply Has.drewN))) hb2; have k0' : Has w2 (B3) 4 _ := Has.call (by repeat (first | (with_reducible assumption) | (with_reducible apply Has.set) | ((with_reducible apply Has.other); (case hne => (dsimp only; omega))) | (with_reducible apply Has.alloc) | (with_reducible apply Has.drew) | (with_reducible apply Has.drewN))) hb2; clear hB hb2; have hB := hB'; clear hB'; clear i0 fi0 zi0; (try clear ci0); have i0 := i0'; clear i0'; have ci0 := i0.1; have fi0 := i0.2.1; have zi0 := i0.2.2; clear j0 fj0 zj0; (try clear cj0); have j0 := j0'; clear j0'; have cj0 := j0.1; have fj0 := j0.2.1; have zj0 := j0.2.2; clear k0 fk0 zk0; (try clear ck0); have k0 := k0'; clear k0'; have ck0 := k0.1; have fk0 := k0.2.1; have zk0 := k0.2.2)
        | (go_at_call 73; (with_reducible refine (equal_any _ _ _ _ _ _ _ (SR.slid r).out f2 _ hS1 hS2 (by omega)).mono ?_); rintro e w2 ⟨rfl, hb2⟩; have hB' : Below w.heap.size w w2 := below_go (by repeat (first | (with_reducible exact Below.refl _ _) | (with_reducible assumption) | (with_reducible refine below_go ?_ (by with_reducible assumption)) | (with_reducible refine below_new ?_ _) | ((with_reducible refine below_put ?_ ?_ _); rotate_left; (dsimp only; omega)) | (with_reducible refine Below.drew ?_) | (with_reducible refine below_dn ?_ _))) hb2; have i0' : Has w2 (w.heap.size) 4 _ := Has.call (by repeat (first | (with_reducible assumption) | (with_reducible apply Has.set) | ((with_reducible apply Has.other); (case hne => (dsimp only; omega))) | (with_reducible apply Has.alloc) | (with_reducible apply Has.drew) | (with_reducible apply Has.drewN))) hb2; clear hB hb2; have hB := hB'; clear hB'; clear i0 fi0 zi0; (try clear ci0); have i0 := i0'; clear i0'; have ci0 := i0.1; have fi0 := i0.2.1; have zi0 := i0.2.2))
      all_goals
        go_wp2
        go_ret2
        exact ⟨rfl, (by repeat (first | (with_reducible exact Below.refl _ _) | (with_reducible assumption) | (with_reducible refine below_go ?_ (by with_reducible assumption)) | (with_reducible refine below_new ?_ _) | ((with_reducible refine below_put ?_ ?_ _); rotate_left; (dsimp only; omega)) | (with_reducible refine Below.drew ?_) | (with_reducible refine below_dn ?_ _)))⟩
    · rw [decide_eq_false hm, Bool.false_and]
      have HM := hide hm
      clear hm
      go_enter Try.func39, Try.ntmps39
      go_wp2_with fail
      generalize hW : w.alloc _ = w1
      have hB : Below w.heap.size w w1 := by (rw [← hW]; exact (by repeat (first | (with_reducible exact Below.refl _ _) | (with_reducible assumption) | (with_reducible refine below_go ?_ (by with_reducible assumption)) | (with_reducible refine below_new ?_ _) | ((with_reducible refine below_put ?_ ?_ _); rotate_left; (dsimp only; omega)) | (with_reducible refine Below.drew ?_) | (with_reducible refine below_dn ?_ _))))
      have hsz : Hid (w1.heap.size = w.heap.size + 1) := hide (by rw [← hW]; simp)
      have i0 : Has w1 (w.heap.size) 4 (fun o => .int .i64 (r o)) := by (rw [← hW]; repeat (first | (refine Has.new ?_ rfl; simp; done) | refine Has.alloc ?_ _))
      have ci0 := i0.1; have fi0 := i0.2.1; have zi0 := i0.2.2
      clear hW
      go_wp2_with (first | (go_at_call 23; (with_reducible refine (isRow_any _ _ _ _ _).mono ?_); rintro e w2 ⟨rfl, hb2⟩; have hB' : Below w.heap.size w w2 := below_go (by repeat (first | (with_reducible exact Below.refl _ _) | (with_reducible assumption) | (with_reducible refine below_go ?_ (by with_reducible assumption)) | (with_reducible refine below_new ?_ _) | ((with_reducible refine below_put ?_ ?_ _); rotate_left; (dsimp only; omega)) | (with_reducible refine Below.drew ?_) | (with_reducible refine below_dn ?_ _))) hb2; have i0' : Has w2 (w.heap.size) 4 _ := Has.call (by repeat (first | (with_reducible assumption) | (with_reducible apply Has.set) | ((with_reducible apply Has.other); (case hne => (dsimp only; omega))) | (with_reducible apply Has.alloc) | (with_reducible apply Has.drew) | (with_reducible apply Has.drewN))) hb2; clear hB hb2; have hB := hB'; clear hB'; clear i0 fi0 zi0; (try clear ci0); have i0 := i0'; clear i0'; have ci0 := i0.1; have fi0 := i0.2.1; have zi0 := i0.2.2) | (go_at_call 66; (with_reducible refine (slideRow_any _ HR.out _).mono ?_); rintro e w2 ⟨rfl, hb2⟩; have hB' : Below w.heap.size w w2 := below_go (by repeat (first | (with_reducible exact Below.refl _ _) | (with_reducible assumption) | (with_reducible refine below_go ?_ (by with_reducible assumption)) | (with_reducible refine below_new ?_ _) | ((with_reducible refine below_put ?_ ?_ _); rotate_left; (dsimp only; omega)) | (with_reducible refine Below.drew ?_) | (with_reducible refine below_dn ?_ _))) hb2; have i0' : Has w2 (w.heap.size) 4 _ := Has.call (by repeat (first | (with_reducible assumption) | (with_reducible apply Has.set) | ((with_reducible apply Has.other); (case hne => (dsimp only; omega))) | (with_reducible apply Has.alloc) | (with_reducible apply Has.drew) | (with_reducible apply Has.drewN))) hb2; clear hB hb2; have hB := hB'; clear hB'; clear i0 fi0 zi0; (try clear ci0); have i0 := i0'; clear i0'; have ci0 := i0.1; have fi0 := i0.2.1; have zi0 := i0.2.2))
      generalize hW : (World.alloc (World.alloc w2 _) _) = w1
      have hB' : Below w.heap.size w w1 := by (rw [← hW]; exact (by repeat (first | (with_reducible exact Below.refl _ _) | (with_reducible assumption) | (with_reducible refine below_go ?_ (by with_reducible assumption)) | (with_reducible refine below_new ?_ _) | ((with_reducible refine below_put ?_ ?_ _); rotate_left; (dsimp only; omega)) | (with_reducible refine Below.drew ?_) | (with_reducible refine below_dn ?_ _))))
      have i0' := Has.at hW (B := w.heap.size) (n := 4) (by repeat (first | (with_reducible assumption) | (with_reducible apply Has.set) | ((with_reducible apply Has.other); (case hne => (dsimp only; omega))) | (with_reducible apply Has.alloc) | (with_reducible apply Has.drew) | (with_reducible apply Has.drewN)))
      have j0 := Has.at hW (n := 4) (Has.alloc (Has.new' rfl) _)
      try simp only [World.size_alloc] at j0
      clear hW; clear hB; have hB := hB'; clear hB'; clear i0 fi0 zi0; (try clear ci0); have i0 := i0'; clear i0'; have ci0 := i0.1; have fi0 := i0.2.1; have zi0 := i0.2.2; have cj0 := j0.1; have fj0 := j0.2.1; have zj0 := j0.2.2
      generalize hS : w2.heap.size = B1 at *
      clear hS
      go_wp2_with (first | (go_at_call 72; (with_reducible refine (slideBack_any _ HR.out _).mono ?_); rintro e w2 ⟨rfl, hb2⟩; have hB' : Below w.heap.size w w2 := below_go (by repeat (first | (with_reducible exact Below.refl _ _) | (with_reducible assumption) | (with_reducible refine below_go ?_ (by with_reducible assumption)) | (with_reducible refine below_new ?_ _) | ((with_reducible refine below_put ?_ ?_ _); rotate_left; (dsimp only; omega)) | (with_reducible refine Below.drew ?_) | (with_reducible refine below_dn ?_ _))) hb2; have i0' : Has w2 (w.heap.size) 4 _ := Has.call (by repeat (first | (with_reducible assumption) | (with_reducible apply Has.set) | ((with_reducible apply Has.other); (case hne => (dsimp only; omega))) | (with_reducible apply Has.alloc) | (with_reducible apply Has.drew) | (with_reducible apply Has.drewN))) hb2; have j0' : Has w2 (B1) 4 _ := Has.call (by repeat (first | (with_reducible assumption) | (with_reducible apply Has.set) | ((with_reducible apply Has.other); (case hne => (dsimp only; omega))) | (with_reducible apply Has.alloc) | (with_reducible apply Has.drew) | (with_reducible apply Has.drewN))) hb2; clear hB hb2; have hB := hB'; clear hB'; clear i0 fi0 zi0; (try clear ci0); have i0 := i0'; clear i0'; have ci0 := i0.1; have fi0 := i0.2.1; have zi0 := i0.2.2; clear j0 fj0 zj0; (try clear cj0); have j0 := j0'; clear j0'; have cj0 := j0.1; have fj0 := j0.2.1; have zj0 := j0.2.2))
      generalize hW : (World.alloc w2 _) = w1
      have hB' : Below w.heap.size w w1 := by (rw [← hW]; exact (by repeat (first | (with_reducible exact Below.refl _ _) | (with_reducible assumption) | (with_reducible refine below_go ?_ (by with_reducible assumption)) | (with_reducible refine below_new ?_ _) | ((with_reducible refine below_put ?_ ?_ _); rotate_left; (dsimp only; omega)) | (with_reducible refine Below.drew ?_) | (with_reducible refine below_dn ?_ _))))
      have i0' := Has.at hW (B := w.heap.size) (n := 4) (by repeat (first | (with_reducible assumption) | (with_reducible apply Has.set) | ((with_reducible apply Has.other); (case hne => (dsimp only; omega))) | (with_reducible apply Has.alloc) | (with_reducible apply Has.drew) | (with_reducible apply Has.drewN)))
      have j0' := Has.at hW (B := B1) (n := 4) (by repeat (first | (with_reducible assumption) | (with_reducible apply Has.set) | ((with_reducible apply Has.other); (case hne => (dsimp only; omega))) | (with_reducible apply Has.alloc) | (with_reducible apply Has.drew) | (with_reducible apply Has.drewN)))
      have k0 := Has.at hW (n := 4) (Has.new' rfl)
      try simp only [World.size_alloc] at k0
      clear hW; clear hB; have hB := hB'; clear hB'; clear i0 fi0 zi0; (try clear ci0); have i0 := i0'; clear i0'; have ci0 := i0.1; have fi0 := i0.2.1; have zi0 := i0.2.2; clear j0 fj0 zj0; (try clear cj0); have j0 := j0'; clear j0'; have cj0 := j0.1; have fj0 := j0.2.1; have zj0 := j0.2.2; have ck0 := k0.1; have fk0 := k0.2.1; have zk0 := k0.2.2
      generalize hS : w2.heap.size = B3 at *
      clear hS
      go_region_with (first
        | (go_at_call 68; (with_reducible refine (T1.out _).mono ?_); rintro e w2 ⟨A1, c1, rfl, -, hb2⟩; have hB' : Below w.heap.size w w2 := below_go (by repeat (first | (with_reducible exact Below.refl _ _) | (with_reducible assumption) | (with_reducible refine below_go ?_ (by with_reducible assumption)) | (with_reducible refine below_new ?_ _) | ((with_reducible refine below_put ?_ ?_ _); rotate_left; (dsimp only; omega)) | (with_reducible refine Below.drew ?_) | (with_reducible refine below_dn ?_ _))) hb2; have i0' : Has w2 (w.heap.size) 4 _ := Has.call (by repeat (first | (with_reducible assumption) | (with_reducible apply Has.set) | ((with_reducible apply Has.other); (case hne => (dsimp only; omega))) | (with_reducible apply Has.alloc) | (with_reducible apply Has.drew) | (with_reducible apply Has.drewN))) hb2; have j0' : Has w2 (B1) 4 _ := Has.call (by repeat (first | (with_reducible assumption) | (with_reducible apply Has.set) | ((with_reducible apply Has.other); (case hne => (dsimp only; omega))) | (with_reducible apply Has.alloc) | (with_reducible apply Has.drew) | (with_reducible apply Has.drewN))) hb2; have k0' : Has w2 (B3) 4 _ := Has.call (by repeat (first | (with_reducible assumption) | (with_reducible apply Has.set) | ((with_reducible apply Has.other); (case hne => (dsimp only; omega))) | (with_reducible apply Has.alloc) | (with_reducible apply Has.drew) | (with_reducible apply Has.drewN))) hb2; clear hB hb2; have hB := hB'; clear hB'; clear i0 fi0 zi0; (try clear ci0); have i0 := i0'; clear i0'; have ci0 := i0.1; have fi0 := i0.2.1; have zi0 := i0.2.2; clear j0 fj0 zj0; (try clear cj0); have j0 := j0'; clear j0'; have cj0 := j0.1; have fj0 := j0.2.1; have zj0 := j0.2.2; clear k0 fk0 zk0; (try clear ck0); have k0 := k0'; clear k0'; have ck0 := k0.1; have fk0 := k0.2.1; have zk0 := k0.2.2)
        | (go_at_call 68; (with_reducible refine (T2.out _).mono ?_); rintro e w2 ⟨A2, c2, rfl, -, hb2⟩; have hB' : Below w.heap.size w w2 := below_go (by repeat (first | (with_reducible exact Below.refl _ _) | (with_reducible assumption) | (with_reducible refine below_go ?_ (by with_reducible assumption)) | (with_reducible refine below_new ?_ _) | ((with_reducible refine below_put ?_ ?_ _); rotate_left; (dsimp only; omega)) | (with_reducible refine Below.drew ?_) | (with_reducible refine below_dn ?_ _))) hb2; have i0' : Has w2 (w.heap.size) 4 _ := Has.call (by repeat (first | (with_reducible assumption) | (with_reducible apply Has.set) | ((with_reducible apply Has.other); (case hne => (dsimp only; omega))) | (with_reducible apply Has.alloc) | (with_reducible apply Has.drew) | (with_reducible apply Has.drewN))) hb2; have j0' : Has w2 (B1) 4 _ := Has.call (by repeat (first | (with_reducible assumption) | (with_reducible apply Has.set) | ((with_reducible apply Has.other); (case hne => (dsimp only; omega))) | (with_reducible apply Has.alloc) | (with_reducible apply Has.drew) | (with_reducible apply Has.drewN))) hb2; have k0' : Has w2 (B3) 4 _ := Has.call (by repeat (first | (with_reducible assumption) | (with_reducible apply Has.set) | ((with_reducible apply Has.other); (case hne => (dsimp only; omega))) | (with_reducible apply Has.alloc) | (with_reducible apply Has.drew) | (with_reducible apply Has.drewN))) hb2; clear hB hb2; have hB := hB'; clear hB'; clear i0 fi0 zi0; (try clear ci0); have i0 := i0'; clear i0'; have ci0 := i0.1; have fi0 := i0.2.1; have zi0 := i0.2.2; clear j0 fj0 zj0; (try clear cj0); have j0 := j0'; clear j0'; have cj0 := j0.1; have fj0 := j0.2.1; have zj0 := j0.2.2; clear k0 fk0 zk0; (try clear ck0); have k0 := k0'; clear k0'; have ck0 := k0.1; have fk0 := k0.2.1; have zk0 := k0.2.2)
        | (go_at_call 73; (with_reducible refine (equal_ne _ _ _ _ _ _ HM.out (by omega) (by omega) _).mono ?_); rintro e w2 ⟨rfl, hb2⟩; have hB' : Below w.heap.size w w2 := below_go (by repeat (first | (with_reducible exact Below.refl _ _) | (with_reducible assumption) | (with_reducible refine below_go ?_ (by with_reducible assumption)) | (with_reducible refine below_new ?_ _) | ((with_reducible refine below_put ?_ ?_ _); rotate_left; (dsimp only; omega)) | (with_reducible refine Below.drew ?_) | (with_reducible refine below_dn ?_ _))) hb2; have i0' : Has w2 (w.heap.size) 4 _ := Has.call (by repeat (first | (with_reducible assumption) | (with_reducible apply Has.set) | ((with_reducible apply Has.other); (case hne => (dsimp only; omega))) | (with_reducible apply Has.alloc) | (with_reducible apply Has.drew) | (with_reducible apply Has.drewN))) hb2; clear hB hb2; have hB := hB'; clear hB'; clear i0 fi0 zi0; (try clear ci0); have i0 := i0'; clear i0'; have ci0 := i0.1; have fi0 := i0.2.1; have zi0 := i0.2.2))
      all_goals
        go_wp2
        go_ret2
        exact ⟨rfl, (by repeat (first | (with_reducible exact Below.refl _ _) | (with_reducible assumption) | (with_reducible refine below_go ?_ (by with_reducible assumption)) | (with_reducible refine below_new ?_ _) | ((with_reducible refine below_put ?_ ?_ _); rotate_left; (dsimp only; omega)) | (with_reducible refine Below.drew ?_) | (with_reducible refine below_dn ?_ _)))⟩

set_option maxHeartbeats 4000000 in
set_option maxRecDepth 100000 in
theorem specIsSymmetricRow_any (r : Nat → Int) (w : World) : Calls Try.prog 38 #[.agg #[.int .i64 (r 0), .int .i64 (r 1), .int .i64 (r 2), .int .i64 (r 3)]] w fun e w' => e = .returned (.tuple #[.bool (rowB (r 0) (r 1) (r 2) (r 3) && symB r), .bool (rowB (r 0) (r 1) (r 2) (r 3))]) ∧ Below w.heap.size w w' := by
  cases h : rowB (r 0) (r 1) (r 2) (r 3)
  · simp only [Bool.false_and]
    go_enter Try.func38, Try.ntmps38
    go_wp2_with fail
    generalize hW : w.alloc _ = w1
    have hB : Below w.heap.size w w1 := by (rw [← hW]; exact (by repeat (first | (with_reducible exact Below.refl _ _) | (with_reducible assumption) | (with_reducible refine below_go ?_ (by with_reducible assumption)) | (with_reducible refine below_new ?_ _) | ((with_reducible refine below_put ?_ ?_ _); rotate_left; (dsimp only; omega)) | (with_reducible refine Below.drew ?_) | (with_reducible refine below_dn ?_ _))))
    have hsz : Hid (w1.heap.size = w.heap.size + 1) := hide (by rw [← hW]; simp)
    have i0 : Has w1 (w.heap.size) 4 (fun o => .int .i64 (r o)) := by (rw [← hW]; repeat (first | (refine Has.new ?_ rfl; simp; done) | refine Has.alloc ?_ _))
    have ci0 := i0.1; have fi0 := i0.2.1; have zi0 := i0.2.2
    clear hW
    go_wp2_with (first | (go_at_call 58; (with_reducible refine (l4Row_any _ _ _ _ _).mono ?_); rintro e w2 ⟨rfl, hb2⟩; have hB' : Below w.heap.size w w2 := below_go (by repeat (first | (with_reducible exact Below.refl _ _) | (with_reducible assumption) | (with_reducible refine below_go ?_ (by with_reducible assumption)) | (with_reducible refine below_new ?_ _) | ((with_reducible refine below_put ?_ ?_ _); rotate_left; (dsimp only; omega)) | (with_reducible refine Below.drew ?_) | (with_reducible refine below_dn ?_ _))) hb2; have i0' : Has w2 (w.heap.size) 4 _ := Has.call (by repeat (first | (with_reducible assumption) | (with_reducible apply Has.set) | ((with_reducible apply Has.other); (case hne => (dsimp only; omega))) | (with_reducible apply Has.alloc) | (with_reducible apply Has.drew) | (with_reducible apply Has.drewN))) hb2; clear hB hb2; have hB := hB'; clear hB'; clear i0 fi0 zi0; (try clear ci0); have i0 := i0'; clear i0'; have ci0 := i0.1; have fi0 := i0.2.1; have zi0 := i0.2.2))
    go_ret2
    exact ⟨rfl, (by repeat (first | (with_reducible exact Below.refl _ _) | (with_reducible assumption) | (with_reducible refine below_go ?_ (by with_reducible assumption)) | (with_reducible refine below_new ?_ _) | ((with_reducible refine below_put ?_ ?_ _); rotate_left; (dsimp only; omega)) | (with_reducible refine Below.drew ?_) | (with_reducible refine below_dn ?_ _)))⟩
  · simp only [Bool.true_and]
    have hr := rowB_in h
    have hr2 := turnR_in hr
    have M1 := hide fun w => l4Many_any (SR.slid r).out (slid_in' hr) w
    have M2 := hide fun w => l4Many_any (SR.slid (turnR r)).out (slid_in' hr2) w
    have l1 := tilesL_len (SR.slid r).out
    have l2 := tilesL_len (SR.slid (turnR r)).out
    have hsym : symB r = (decide ((tilesL (SR.slid r).out).length = (tilesL (SR.slid (turnR r)).out).length) && decide (∀ k, k < (tilesL (SR.slid (turnR r)).out).length → (SR.slid r).out k = (SR.slid (turnR r)).out ((tilesL (SR.slid (turnR r)).out).length - 1 - k))) := rfl
    have HS := hide hsym
    have HR := hide hr
    have HR2 := hide hr2
    clear hr hr2 hsym
    generalize symB r = sb at HS ⊢
    generalize (tilesL (SR.slid r).out).length = m1 at *
    generalize (tilesL (SR.slid (turnR r)).out).length = m2 at *
    go_enter Try.func38, Try.ntmps38
    go_wp2_with fail
    generalize hW : w.alloc _ = w1
    have hB : Below w.heap.size w w1 := by (rw [← hW]; exact (by repeat (first | (with_reducible exact Below.refl _ _) | (with_reducible assumption) | (with_reducible refine below_go ?_ (by with_reducible assumption)) | (with_reducible refine below_new ?_ _) | ((with_reducible refine below_put ?_ ?_ _); rotate_left; (dsimp only; omega)) | (with_reducible refine Below.drew ?_) | (with_reducible refine below_dn ?_ _))))
    have hsz : Hid (w1.heap.size = w.heap.size + 1) := hide (by rw [← hW]; simp)
    have i0 : Has w1 (w.heap.size) 4 (fun o => .int .i64 (r o)) := by (rw [← hW]; repeat (first | (refine Has.new ?_ rfl; simp; done) | refine Has.alloc ?_ _))
    have ci0 := i0.1; have fi0 := i0.2.1; have zi0 := i0.2.2
    clear hW
    go_wp2_with (first | (go_at_call 58; (with_reducible refine (l4Row_any _ _ _ _ _).mono ?_); rintro e w2 ⟨rfl, hb2⟩; have hB' : Below w.heap.size w w2 := below_go (by repeat (first | (with_reducible exact Below.refl _ _) | (with_reducible assumption) | (with_reducible refine below_go ?_ (by with_reducible assumption)) | (with_reducible refine below_new ?_ _) | ((with_reducible refine below_put ?_ ?_ _); rotate_left; (dsimp only; omega)) | (with_reducible refine Below.drew ?_) | (with_reducible refine below_dn ?_ _))) hb2; have i0' : Has w2 (w.heap.size) 4 _ := Has.call (by repeat (first | (with_reducible assumption) | (with_reducible apply Has.set) | ((with_reducible apply Has.other); (case hne => (dsimp only; omega))) | (with_reducible apply Has.alloc) | (with_reducible apply Has.drew) | (with_reducible apply Has.drewN))) hb2; clear hB hb2; have hB := hB'; clear hB'; clear i0 fi0 zi0; (try clear ci0); have i0 := i0'; clear i0'; have ci0 := i0.1; have fi0 := i0.2.1; have zi0 := i0.2.2) | (go_at_call 65; (with_reducible refine (l2Row_any _ HR.out _).mono ?_); rintro e w2 ⟨rfl, hb2⟩; have hB' : Below w.heap.size w w2 := below_go (by repeat (first | (with_reducible exact Below.refl _ _) | (with_reducible assumption) | (with_reducible refine below_go ?_ (by with_reducible assumption)) | (with_reducible refine below_new ?_ _) | ((with_reducible refine below_put ?_ ?_ _); rotate_left; (dsimp only; omega)) | (with_reducible refine Below.drew ?_) | (with_reducible refine below_dn ?_ _))) hb2; have i0' : Has w2 (w.heap.size) 4 _ := Has.call (by repeat (first | (with_reducible assumption) | (with_reducible apply Has.set) | ((with_reducible apply Has.other); (case hne => (dsimp only; omega))) | (with_reducible apply Has.alloc) | (with_reducible apply Has.drew) | (with_reducible apply Has.drewN))) hb2; clear hB hb2; have hB := hB'; clear hB'; clear i0 fi0 zi0; (try clear ci0); have i0 := i0'; clear i0'; have ci0 := i0.1; have fi0 := i0.2.1; have zi0 := i0.2.2))
    generalize hW : (World.alloc w2 _) = w1
    have hB' : Below w.heap.size w w1 := by (rw [← hW]; exact (by repeat (first | (with_reducible exact Below.refl _ _) | (with_reducible assumption) | (with_reducible refine below_go ?_ (by with_reducible assumption)) | (with_reducible refine below_new ?_ _) | ((with_reducible refine below_put ?_ ?_ _); rotate_left; (dsimp only; omega)) | (with_reducible refine Below.drew ?_) | (with_reducible refine below_dn ?_ _))))
    have i0' := Has.at hW (B := w.heap.size) (n := 4) (by repeat (first | (with_reducible assumption) | (with_reducible apply Has.set) | ((with_reducible apply Has.other); (case hne => (dsimp only; omega))) | (with_reducible apply Has.alloc) | (with_reducible apply Has.drew) | (with_reducible apply Has.drewN)))
    have j0 := Has.at hW (n := 4) (Has.new' rfl)
    try simp only [World.size_alloc] at j0
    clear hW; clear hB; have hB := hB'; clear hB'; clear i0 fi0 zi0; (try clear ci0); have i0 := i0'; clear i0'; have ci0 := i0.1; have fi0 := i0.2.1; have zi0 := i0.2.2; have cj0 := j0.1; have fj0 := j0.2.1; have zj0 := j0.2.2
    generalize hS : w2.heap.size = B1 at *
    clear hS
    go_wp2_with (first | (go_at_call 61; (with_reducible refine (l4Turn_fn r _).mono ?_); rintro e w2 ⟨rfl, hb2⟩; have hB' : Below w.heap.size w w2 := below_go (by repeat (first | (with_reducible exact Below.refl _ _) | (with_reducible assumption) | (with_reducible refine below_go ?_ (by with_reducible assumption)) | (with_reducible refine below_new ?_ _) | ((with_reducible refine below_put ?_ ?_ _); rotate_left; (dsimp only; omega)) | (with_reducible refine Below.drew ?_) | (with_reducible refine below_dn ?_ _))) hb2; have i0' : Has w2 (w.heap.size) 4 _ := Has.call (by repeat (first | (with_reducible assumption) | (with_reducible apply Has.set) | ((with_reducible apply Has.other); (case hne => (dsimp only; omega))) | (with_reducible apply Has.alloc) | (with_reducible apply Has.drew) | (with_reducible apply Has.drewN))) hb2; have j0' : Has w2 (B1) 4 _ := Has.call (by repeat (first | (with_reducible assumption) | (with_reducible apply Has.set) | ((with_reducible apply Has.other); (case hne => (dsimp only; omega))) | (with_reducible apply Has.alloc) | (with_reducible apply Has.drew) | (with_reducible apply Has.drewN))) hb2; clear hB hb2; have hB := hB'; clear hB'; clear i0 fi0 zi0; (try clear ci0); have i0 := i0'; clear i0'; have ci0 := i0.1; have fi0 := i0.2.1; have zi0 := i0.2.2; clear j0 fj0 zj0; (try clear cj0); have j0 := j0'; clear j0'; have cj0 := j0.1; have fj0 := j0.2.1; have zj0 := j0.2.2) | (go_at_call 65; (with_reducible refine (l2Row_any _ HR2.out _).mono ?_); rintro e w2 ⟨rfl, hb2⟩; have hB' : Below w.heap.size w w2 := below_go (by repeat (first | (with_reducible exact Below.refl _ _) | (with_reducible assumption) | (with_reducible refine below_go ?_ (by with_reducible assumption)) | (with_reducible refine below_new ?_ _) | ((with_reducible refine below_put ?_ ?_ _); rotate_left; (dsimp only; omega)) | (with_reducible refine Below.drew ?_) | (with_reducible refine below_dn ?_ _))) hb2; have i0' : Has w2 (w.heap.size) 4 _ := Has.call (by repeat (first | (with_reducible assumption) | (with_reducible apply Has.set) | ((with_reducible apply Has.other); (case hne => (dsimp only; omega))) | (with_reducible apply Has.alloc) | (with_reducible apply Has.drew) | (with_reducible apply Has.drewN))) hb2; have j0' : Has w2 (B1) 4 _ := Has.call (by repeat (first | (with_reducible assumption) | (with_reducible apply Has.set) | ((with_reducible apply Has.other); (case hne => (dsimp only; omega))) | (with_reducible apply Has.alloc) | (with_reducible apply Has.drew) | (with_reducible apply Has.drewN))) hb2; clear hB hb2; have hB := hB'; clear hB'; clear i0 fi0 zi0; (try clear ci0); have i0 := i0'; clear i0'; have ci0 := i0.1; have fi0 := i0.2.1; have zi0 := i0.2.2; clear j0 fj0 zj0; (try clear cj0); have j0 := j0'; clear j0'; have cj0 := j0.1; have fj0 := j0.2.1; have zj0 := j0.2.2))
    generalize hW : (World.alloc w2 _) = w1
    have hB' : Below w.heap.size w w1 := by (rw [← hW]; exact (by repeat (first | (with_reducible exact Below.refl _ _) | (with_reducible assumption) | (with_reducible refine below_go ?_ (by with_reducible assumption)) | (with_reducible refine below_new ?_ _) | ((with_reducible refine below_put ?_ ?_ _); rotate_left; (dsimp only; omega)) | (with_reducible refine Below.drew ?_) | (with_reducible refine below_dn ?_ _))))
    have i0' := Has.at hW (B := w.heap.size) (n := 4) (by repeat (first | (with_reducible assumption) | (with_reducible apply Has.set) | ((with_reducible apply Has.other); (case hne => (dsimp only; omega))) | (with_reducible apply Has.alloc) | (with_reducible apply Has.drew) | (with_reducible apply Has.drewN)))
    have j0' := Has.at hW (B := B1) (n := 4) (by repeat (first | (with_reducible assumption) | (with_reducible apply Has.set) | ((with_reducible apply Has.other); (case hne => (dsimp only; omega))) | (with_reducible apply Has.alloc) | (with_reducible apply Has.drew) | (with_reducible apply Has.drewN)))
    have k0 := Has.at hW (n := 4) (Has.new' rfl)
    try simp only [World.size_alloc] at k0
    clear hW; clear hB; have hB := hB'; clear hB'; clear i0 fi0 zi0; (try clear ci0); have i0 := i0'; clear i0'; have ci0 := i0.1; have fi0 := i0.2.1; have zi0 := i0.2.2; clear j0 fj0 zj0; (try clear cj0); have j0 := j0'; clear j0'; have cj0 := j0.1; have fj0 := j0.2.1; have zj0 := j0.2.2; have ck0 := k0.1; have fk0 := k0.2.1; have zk0 := k0.2.2
    generalize hS : w2.heap.size = B3 at *
    clear hS
    go_wp2_with (first | (go_at_call 67; (with_reducible refine (M2.out _).mono ?_); rintro e w2 ⟨rfl, hb2⟩; have hB' : Below w.heap.size w w2 := below_go (by repeat (first | (with_reducible exact Below.refl _ _) | (with_reducible assumption) | (with_reducible refine below_go ?_ (by with_reducible assumption)) | (with_reducible refine below_new ?_ _) | ((with_reducible refine below_put ?_ ?_ _); rotate_left; (dsimp only; omega)) | (with_reducible refine Below.drew ?_) | (with_reducible refine below_dn ?_ _))) hb2; have j0' : Has w2 (B1) 4 _ := Has.call (by repeat (first | (with_reducible assumption) | (with_reducible apply Has.set) | ((with_reducible apply Has.other); (case hne => (dsimp only; omega))) | (with_reducible apply Has.alloc) | (with_reducible apply Has.drew) | (with_reducible apply Has.drewN))) hb2; have k0' : Has w2 (B3) 4 _ := Has.call (by repeat (first | (with_reducible assumption) | (with_reducible apply Has.set) | ((with_reducible apply Has.other); (case hne => (dsimp only; omega))) | (with_reducible apply Has.alloc) | (with_reducible apply Has.drew) | (with_reducible apply Has.drewN))) hb2; clear hB hb2; have hB := hB'; clear hB'; clear j0 fj0 zj0; (try clear cj0); have j0 := j0'; clear j0'; have cj0 := j0.1; have fj0 := j0.2.1; have zj0 := j0.2.2; clear k0 fk0 zk0; (try clear ck0); have k0 := k0'; clear k0'; have ck0 := k0.1; have fk0 := k0.2.1; have zk0 := k0.2.2))
    have j1 := j0.congr (d := fun o => .int .i64 ((SR.slid r).out o)) (fun o ho => by rcases (by omega : o = 0 ∨ o = 1 ∨ o = 2 ∨ o = 3) with rfl | rfl | rfl | rfl <;> rfl)
    have k1 := k0.congr (d := fun o => .int .i64 ((SR.slid (turnR r)).out o)) (fun o ho => by rcases (by omega : o = 0 ∨ o = 1 ∨ o = 2 ∨ o = 3) with rfl | rfl | rfl | rfl <;> rfl)
    clear i0 ci0 fi0 zi0 j0 cj0 fj0 zj0 k0 ck0 fk0 zk0 HR HR2
    generalize hL : (SR.slid r).out = L at *
    generalize hR : (SR.slid (turnR r)).out = R at *
    clear hL hR
    go_loopw [9] (fun v wr => ∃ k : Nat, k ≤ m2 ∧ v = .int .i64 k ∧ Hid (∀ j, j < k → L j = R (m2 - 1 - j)) ∧ Below w.heap.size w wr ∧ Has wr B1 4 (fun o => .int .i64 (L o)) ∧ Has wr B3 4 (fun o => .int .i64 (R o))) (fun i _ => m2 - (intOf i).toNat)
    case atStart => exact ⟨0, by omega, rfl, hide (fun j hj => absurd hj (Nat.not_lt_zero _)), hB, j1, k1⟩
    case round =>
      clear hB j1 k1
      obtain ⟨k, hk, rfl, hall, hB, j0, k0⟩ := hrel
      have cj0 := j0.1; have fj0 := j0.2.1; have zj0 := j0.2.2
      have ck0 := k0.1; have fk0 := k0.2.1; have zk0 := k0.2.2
      by_cases h4 : k = m2
      · subst h4
        have hd : sb = decide (m1 = k) := by rw [HS.out, decide_eq_true hall.out, Bool.and_true]
        have HD := hide hd
        clear hd
        by_cases hm : m1 = k
        · have hm' : ((m1 : Int) == (k : Int)) = true := by simp [hm]
          have hd := hide (HD.out.trans (decide_eq_true hm))
          clear hm
          go_wp2_with (first | (go_at_call 67; (with_reducible refine (M1.out _).mono ?_); rintro e w2 ⟨rfl, hb2⟩; have hB' : Below w.heap.size w w2 := below_go (by repeat (first | (with_reducible exact Below.refl _ _) | (with_reducible assumption) | (with_reducible refine below_go ?_ (by with_reducible assumption)) | (with_reducible refine below_new ?_ _) | ((with_reducible refine below_put ?_ ?_ _); rotate_left; (dsimp only; omega)) | (with_reducible refine Below.drew ?_) | (with_reducible refine below_dn ?_ _))) hb2; have j0' : Has w2 (B1) 4 _ := Has.call (by repeat (first | (with_reducible assumption) | (with_reducible apply Has.set) | ((with_reducible apply Has.other); (case hne => (dsimp only; omega))) | (with_reducible apply Has.alloc) | (with_reducible apply Has.drew) | (with_reducible apply Has.drewN))) hb2; have k0' : Has w2 (B3) 4 _ := Has.call (by repeat (first | (with_reducible assumption) | (with_reducible apply Has.set) | ((with_reducible apply Has.other); (case hne => (dsimp only; omega))) | (with_reducible apply Has.alloc) | (with_reducible apply Has.drew) | (with_reducible apply Has.drewN))) hb2; clear hB hb2; have hB := hB'; clear hB'; clear j0 fj0 zj0; (try clear cj0); have j0 := j0'; clear j0'; have cj0 := j0.1; have fj0 := j0.2.1; have zj0 := j0.2.2; clear k0 fk0 zk0; (try clear ck0); have k0 := k0'; clear k0'; have ck0 := k0.1; have fk0 := k0.2.1; have zk0 := k0.2.2))
          go_ret2
          exact ⟨ret_bb hd.out.symm, (by repeat (first | (with_reducible exact Below.refl _ _) | (with_reducible assumption) | (with_reducible refine below_go ?_ (by with_reducible assumption)) | (with_reducible refine below_new ?_ _) | ((with_reducible refine below_put ?_ ?_ _); rotate_left; (dsimp only; omega)) | (with_reducible refine Below.drew ?_) | (with_reducible refine below_dn ?_ _)))⟩
        · have hm' : ((m1 : Int) == (k : Int)) = false := beq_eq_false_iff_ne.2 (by omega)
          have hd := hide (HD.out.trans (decide_eq_false hm))
          clear hm
          go_wp2_with (first | (go_at_call 67; (with_reducible refine (M1.out _).mono ?_); rintro e w2 ⟨rfl, hb2⟩; have hB' : Below w.heap.size w w2 := below_go (by repeat (first | (with_reducible exact Below.refl _ _) | (with_reducible assumption) | (with_reducible refine below_go ?_ (by with_reducible assumption)) | (with_reducible refine below_new ?_ _) | ((with_reducible refine below_put ?_ ?_ _); rotate_left; (dsimp only; omega)) | (with_reducible refine Below.drew ?_) | (with_reducible refine below_dn ?_ _))) hb2; have j0' : Has w2 (B1) 4 _ := Has.call (by repeat (first | (with_reducible assumption) | (with_reducible apply Has.set) | ((with_reducible apply Has.other); (case hne => (dsimp only; omega))) | (with_reducible apply Has.alloc) | (with_reducible apply Has.drew) | (with_reducible apply Has.drewN))) hb2; have k0' : Has w2 (B3) 4 _ := Has.call (by repeat (first | (with_reducible assumption) | (with_reducible apply Has.set) | ((with_reducible apply Has.other); (case hne => (dsimp only; omega))) | (with_reducible apply Has.alloc) | (with_reducible apply Has.drew) | (with_reducible apply Has.drewN))) hb2; clear hB hb2; have hB := hB'; clear hB'; clear j0 fj0 zj0; (try clear cj0); have j0 := j0'; clear j0'; have cj0 := j0.1; have fj0 := j0.2.1; have zj0 := j0.2.2; clear k0 fk0 zk0; (try clear ck0); have k0 := k0'; clear k0'; have ck0 := k0.1; have fk0 := k0.2.1; have zk0 := k0.2.2))
          go_ret2
          exact ⟨ret_bb hd.out.symm, (by repeat (first | (with_reducible exact Below.refl _ _) | (with_reducible assumption) | (with_reducible refine below_go ?_ (by with_reducible assumption)) | (with_reducible refine below_new ?_ _) | ((with_reducible refine below_put ?_ ?_ _); rotate_left; (dsimp only; omega)) | (with_reducible refine Below.drew ?_) | (with_reducible refine below_dn ?_ _)))⟩
      · have hlt : k < m2 := by omega
        have hk4 : k < 4 := by omega
        obtain ⟨q, hq⟩ : ∃ q : Nat, q = m2 - 1 - k := ⟨_, rfl⟩
        have hq4 : q < 4 := by omega
        have a1 : (0 : Int) ≤ q := by omega
        have a2 : (q : Int) < 4 := by omega
        have a3 : (k : Int) < 4 := by omega
        have a4 : (0 : Int) ≤ k := by omega
        have s1 : IntKind.i64.wrap ((m2 : Int) - 1) = (m2 : Int) - 1 := IntWalk.i64_in _ (by omega)
        have s2 : IntKind.i64.wrap ((m2 : Int) - 1 - (k : Int)) = (q : Int) := by rw [IntWalk.i64_in _ (by omega)]; omega
        have HQ := hide hq
        clear hq
        by_cases he : L k = R q
        · have he' : (L k != R q) = false := by simpa using he
          have HE := hide he
          clear he
          go_wp2_with fail
          go_quiet (fail)
          clear s1 s2
          go_wp2
          go_roundw
          case rel => exact ⟨k + 1, by omega, by go_num, hide (all_succ hall.out (by rw [HE.out, HQ.out])), (by repeat (first | (with_reducible exact Below.refl _ _) | (with_reducible assumption) | (with_reducible refine below_go ?_ (by with_reducible assumption)) | (with_reducible refine below_new ?_ _) | ((with_reducible refine below_put ?_ ?_ _); rotate_left; (dsimp only; omega)) | (with_reducible refine Below.drew ?_) | (with_reducible refine below_dn ?_ _))), (by repeat (first | (with_reducible assumption) | (with_reducible apply Has.set) | ((with_reducible apply Has.other); (case hne => (dsimp only; omega))) | (with_reducible apply Has.alloc) | (with_reducible apply Has.drew) | (with_reducible apply Has.drewN))), (by repeat (first | (with_reducible assumption) | (with_reducible apply Has.set) | ((with_reducible apply Has.other); (case hne => (dsimp only; omega))) | (with_reducible apply Has.alloc) | (with_reducible apply Has.drew) | (with_reducible apply Has.drewN)))⟩
          case measure => simp [intOf]; omega
        · have he' : (L k != R q) = true := by simpa using he
          have hd := hide (show sb = false by rw [HS.out, decide_eq_false (p := ∀ j, j < m2 → L j = R (m2 - 1 - j)) (fun hh => he (by rw [HQ.out]; exact hh k hlt)), Bool.and_false])
          have HE := hide he
          clear he
          go_wp2_with fail
          go_quiet (fail)
          clear s1 s2
          go_wp2
          go_ret2
          exact ⟨ret_bb hd.out.symm, (by repeat (first | (with_reducible exact Below.refl _ _) | (with_reducible assumption) | (with_reducible refine below_go ?_ (by with_reducible assumption)) | (with_reducible refine below_new ?_ _) | ((with_reducible refine below_put ?_ ?_ _); rotate_left; (dsimp only; omega)) | (with_reducible refine Below.drew ?_) | (with_reducible refine below_dn ?_ _)))⟩

end Go.Proofs.Ytjmkmoicjhgfiaa
