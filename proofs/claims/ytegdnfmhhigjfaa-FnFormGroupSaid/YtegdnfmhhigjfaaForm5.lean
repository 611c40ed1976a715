/-
  Contracts: the form that moves two cells as told; FormBehind and FormBack, the program's.
-/
import Derived.Test.YtegdnfmhhigjfaaForm3
import Derived.Test.YtegdnfmhhigjfaaQFgD
import Derived.Test.YtegdnfmhhigjfaaQBoard1
import Derived.Test.YtegdnfmhhigjfaaQEqlB
namespace Go.Proofs.Ytegdnfmhhigjfaa
open Go.RowKit

theorem equalIn_A2 (d : Nat) (a b x y : Int) (w : World) : (Op.equalIn (d + 2) 53 (.agg #[.int .i64 a, .int .i64 b]) (.agg #[.int .i64 x, .int .i64 y])).run Try.prog w = .ok (a == x && b == y) w := by
  have u := run_underlying (P := Try.prog) Try.underlying53
  have ea : ∀ (p q : Int) i, i < 2 → (part 3 #[.int .i64 p, .int .i64 q] i).run Try.prog w = .ok (.int .i64 (if i = 0 then p else q)) w := fun p q i hi => by
    rcases (by omega : i = 0 ∨ i = 1) with rfl | rfl <;> kernel_rfl
  rw [Op.equalIn]
  simp [u]
  rw [run_eqLoop (fun i => (if i = 0 then a else b) == (if i = 0 then x else y)) _ (List.range' 0 2) (fun i hi s => by
    have hi4 : i < 2 := by simpa [List.mem_range'] using hi
    simp only [Sem.run_bind, ea _ _ i hi4, Result.andThen_ok, equalIn_int]
    cases (if i = 0 then a else b) == (if i = 0 then x else y) <;> rfl)]
  have e : (List.range' 0 2).all (fun i => (if i = 0 then a else b) == (if i = 0 then x else y)) = (a == x && b == y) := by
    have : List.range' 0 2 = [0, 1] := rfl
    rw [this]
    simp
  rw [e]
  cases (a == x && b == y) <;> rfl
theorem run_eql_A2 (a b x y : Int) (w : World) : (binOp .eql 53 (.agg #[.int .i64 a, .int .i64 b]) (.agg #[.int .i64 x, .int .i64 y])).run Try.prog w = .ok (.bool (a == x && b == y)) w := by
  simp only [binOp, Op.equal, Op.maxDepth]
  simp [equalIn_A2]

def CellOf (x y : Int) (p : Nat) : Prop := x = (p : Int) / 4 ∧ y = (p : Int) % 4
theorem cell_same {x y X Y : Int} {p q : Nat} (h : Hid (CellOf x y p)) (k : Hid (CellOf X Y q)) : (X == x && Y == y) = decide (q = p) := by
  obtain ⟨rfl, rfl⟩ := h.out
  obtain ⟨rfl, rfl⟩ := k.out
  rw [Bool.eq_iff_iff]
  simp only [Bool.and_eq_true, beq_iff_eq, decide_eq_true_eq]
  omega
theorem moved_cell2 (k p : Nat) (hk : k < 8) (hp : p < 16) (x y : Int) (h : Hid (CellOf x y p)) :
    ∃ X Y : Int, Hid (CellOf X Y (mvP k p)) ∧ ∀ w, Calls Try.prog 68 #[.int .i64 k, .agg #[.int .i64 x, .int .i64 y]] w fun e w' => e = .returned (.agg #[.int .i64 X, .int .i64 Y]) ∧ Below w.heap.size w w' := by
  obtain ⟨X, Y, h0, h1, h2, h3, h4, h5⟩ := moved_cell k p hk hp x y h
  have h4 := h4.out
  exact ⟨X, Y, hide ⟨by omega, by omega⟩, h5⟩

theorem likeP_found {P Q j : Nat} (hj : j < 8) (h1 : mvP j 0 = P) (h2 : mvP j 1 = Q) (hall : ∀ i, i < j → ¬ (mvP i 0 = P ∧ mvP i 1 = Q)) : likeP P Q = j := by
  unfold likeP
  rw [find_first hj (by simp [h1, h2]) fun i hi => by
    have := hall i hi
    rw [Bool.eq_false_iff]
    simpa using this]
  rfl
theorem likeP_none {P Q : Nat} (hall : ∀ i, i < 8 → ¬ (mvP i 0 = P ∧ mvP i 1 = Q)) : likeP P Q = 0 := by
  unfold likeP
  rw [find_none fun i hi => by
    have := hall i hi
    rw [Bool.eq_false_iff]
    simpa using this]
  rfl

theorem ret_ib2 {a b : Int} {p : Bool} (h : a = b) : Ending.returned (.tuple #[.int .i64 a, .bool p]) = .returned (.tuple #[.int .i64 b, .bool p]) := by rw [h]
theorem keepL {w' : World} {B0 B1 : Nat} {x y z t : Value} (h0 : Has w' B0 2 (fun o => if o = 0 then x else y)) (h1 : Has w' B1 2 (fun o => if o = 0 then z else t)) : (w'.cell? ⟨B0, 0, none⟩ = some x ∧ w'.cell? ⟨B0, 1, none⟩ = some y) ∧ w'.cell? ⟨B1, 0, none⟩ = some z ∧ w'.cell? ⟨B1, 1, none⟩ = some t :=
  ⟨⟨two_x h0, two_y h0⟩, two_x h1, two_y h1⟩

set_option maxHeartbeats 8000000 in
set_option maxRecDepth 100000 in
theorem formLike_any (P Q : Nat) (x y z t : Int) (hxy : Hid (CellOf x y P)) (hzt : Hid (CellOf z t Q)) (w : World) :
    Calls Try.prog 67 #[.agg #[.int .i64 x, .int .i64 y], .agg #[.int .i64 z, .int .i64 t]] w fun e w' => e = .returned (.int .i64 ((likeP P Q : Nat) : Int)) ∧ Below w.heap.size w w' := by
  go_enter Try.func67, Try.ntmps67
  go_upto_region 1 with (fail)
  generalize hW : (w.alloc _).alloc _ = w1
  have hB : Below w.heap.size w w1 := by (rw [← hW]; exact (by repeat (first | (with_reducible exact Below.refl _ _) | (with_reducible assumption) | (with_reducible refine below_go ?_ (by with_reducible assumption)) | (with_reducible refine below_new ?_ _) | ((with_reducible refine below_put ?_ ?_ _); rotate_left; (dsimp only; omega)) | (with_reducible refine Below.drew ?_) | (with_reducible refine below_dn ?_ _))))
  have hsz : Hid (w1.heap.size = w.heap.size + 1 + 1) := hide (by rw [← hW]; simp)
  have i0 : Has w1 (w.heap.size) 2 (fun o => if o = 0 then .int .i64 x else .int .i64 y) := by (rw [← hW]; repeat (first | (refine Has.new ?_ rfl; simp; done) | refine Has.alloc ?_ _))
  have ci0 := i0.1; have fi0 := i0.2.1; have zi0 := i0.2.2
  have i1 : Has w1 (w.heap.size + 1) 2 (fun o => if o = 0 then .int .i64 z else .int .i64 t) := by (rw [← hW]; repeat (first | (refine Has.new ?_ rfl; simp; done) | refine Has.alloc ?_ _))
  have ci1 := i1.1; have fi1 := i1.2.1; have zi1 := i1.2.2
  clear hW
  clear ci0 fi0 zi0 ci1 fi1 zi1 hsz
  go_wp2_with fail
  go_loopw [6] (fun v wr => ∃ j : Nat, j ≤ 8 ∧ v = .int .i64 j ∧ Hid (∀ i, i < j → ¬ (mvP i 0 = P ∧ mvP i 1 = Q)) ∧ Below w.heap.size w wr ∧ Has wr w.heap.size 2 (fun o => if o = 0 then .int .i64 x else .int .i64 y) ∧ Has wr (w.heap.size + 1) 2 (fun o => if o = 0 then .int .i64 z else .int .i64 t)) (fun i _ => 8 - (intOf i).toNat)
  case atStart => exact ⟨0, by omega, rfl, hide fun i hi => absurd hi (Nat.not_lt_zero _), hB, i0, i1⟩
  case round =>
    clear hB i0 i1
    obtain ⟨j, hj, rfl, hall, hB, i0, i1⟩ := hrel
    by_cases h4 : j = 8
    · subst h4
      have hr := hide (likeP_none hall.out)
      go_wp2
      go_ret
      exact ⟨ret_int (by rw [hr.out]; rfl), hB⟩
    · have hlt : j < 8 := by omega
      obtain ⟨X, Y, hXY, hm0⟩ := moved_cell2 j 0 hlt (by omega) 0 0 (hide ⟨rfl, rfl⟩)
      obtain ⟨Z, T, hZT, hm1⟩ := moved_cell2 j 1 hlt (by omega) 0 1 (hide ⟨rfl, rfl⟩)
      have c1 := cell_same hxy hXY
      have c2 := cell_same hzt hZT
      have zi0 := i0.2.2
      have zi1 := i1.2.2
      have e0 : wr.cell? ⟨w.heap.size, 0, none⟩ = some (.int .i64 x) := two_x i0
      have e1 : wr.cell? ⟨w.heap.size, 1, none⟩ = some (.int .i64 y) := two_y i0
      have e2 : wr.cell? ⟨w.heap.size + 1, 0, none⟩ = some (.int .i64 z) := two_x i1
      have e3 : wr.cell? ⟨w.heap.size + 1, 1, none⟩ = some (.int .i64 t) := two_y i1
      by_cases h1 : mvP j 0 = P
      · have q1 : ∀ w, (binOp .eql 53 (.agg #[.int .i64 X, .int .i64 Y]) (.agg #[.int .i64 x, .int .i64 y])).run Try.prog w = .ok (.bool true) w := fun w => by rw [run_eql_A2, c1, decide_eq_true h1]
        by_cases h2 : mvP j 1 = Q
        · have q2 : ∀ w, (binOp .eql 53 (.agg #[.int .i64 Z, .int .i64 T]) (.agg #[.int .i64 z, .int .i64 t])).run Try.prog w = .ok (.bool true) w := fun w => by rw [run_eql_A2, c2, decide_eq_true h2]
          have hr := hide (likeP_found hlt h1 h2 hall.out)
          clear c1 c2 h1 h2
          go_wp2_with fail
          go_region_held3 (fun w' => (w'.cell? ⟨w.heap.size, 0, none⟩ = some (.int .i64 x) ∧ w'.cell? ⟨w.heap.size, 1, none⟩ = some (.int .i64 y)) ∧ w'.cell? ⟨w.heap.size + 1, 0, none⟩ = some (.int .i64 z) ∧ w'.cell? ⟨w.heap.size + 1, 1, none⟩ = some (.int .i64 t)) (first
            | (with_reducible exact keepL i0 i1)
            | (with_reducible exact keepL (Has.drew i0) (Has.drew i1)))
            (first | (go_at_call 68; (with_reducible refine (hm0 _).mono ?_); rintro e w2 ⟨rfl, hb2⟩; have hB' : Below w.heap.size w w2 := below_go (by repeat (first | (with_reducible exact Below.refl _ _) | (with_reducible assumption) | (with_reducible refine below_go ?_ (by with_reducible assumption)) | (with_reducible refine below_new ?_ _) | ((with_reducible refine below_put ?_ ?_ _); rotate_left; (dsimp only; omega)) | (with_reducible refine Below.drew ?_) | (with_reducible refine below_dn ?_ _))) hb2; have i0' : Has w2 (w.heap.size) 2 _ := Has.call (by repeat (first | (with_reducible assumption) | (with_reducible apply Has.set) | ((with_reducible apply Has.other); (case hne => (dsimp only; omega))) | (with_reducible apply Has.alloc) | (with_reducible apply Has.drew) | (with_reducible apply Has.drewN))) hb2; have i1' : Has w2 (w.heap.size + 1) 2 _ := Has.call (by repeat (first | (with_reducible assumption) | (with_reducible apply Has.set) | ((with_reducible apply Has.other); (case hne => (dsimp only; omega))) | (with_reducible apply Has.alloc) | (with_reducible apply Has.drew) | (with_reducible apply Has.drewN))) hb2; clear hB hb2; have hB := hB'; clear hB'; (try clear fi0); (try clear zi0); (try clear ci0); clear i0; have i0 := i0'; clear i0'; have ci0 := i0.1; have fi0 := i0.2.1; have zi0 := i0.2.2; (try clear fi1); (try clear zi1); (try clear ci1); clear i1; have i1 := i1'; clear i1'; have ci1 := i1.1; have fi1 := i1.2.1; have zi1 := i1.2.2) | (go_at_call 68; (with_reducible refine (hm1 _).mono ?_); rintro e w2 ⟨rfl, hb2⟩; have hB' : Below w.heap.size w w2 := below_go (by repeat (first | (with_reducible exact Below.refl _ _) | (with_reducible assumption) | (with_reducible refine below_go ?_ (by with_reducible assumption)) | (with_reducible refine below_new ?_ _) | ((with_reducible refine below_put ?_ ?_ _); rotate_left; (dsimp only; omega)) | (with_reducible refine Below.drew ?_) | (with_reducible refine below_dn ?_ _))) hb2; have i0' : Has w2 (w.heap.size) 2 _ := Has.call (by repeat (first | (with_reducible assumption) | (with_reducible apply Has.set) | ((with_reducible apply Has.other); (case hne => (dsimp only; omega))) | (with_reducible apply Has.alloc) | (with_reducible apply Has.drew) | (with_reducible apply Has.drewN))) hb2; have i1' : Has w2 (w.heap.size + 1) 2 _ := Has.call (by repeat (first | (with_reducible assumption) | (with_reducible apply Has.set) | ((with_reducible apply Has.other); (case hne => (dsimp only; omega))) | (with_reducible apply Has.alloc) | (with_reducible apply Has.drew) | (with_reducible apply Has.drewN))) hb2; clear hB hb2; have hB := hB'; clear hB'; (try clear fi0); (try clear zi0); (try clear ci0); clear i0; have i0 := i0'; clear i0'; have ci0 := i0.1; have fi0 := i0.2.1; have zi0 := i0.2.2; (try clear fi1); (try clear zi1); (try clear ci1); clear i1; have i1 := i1'; clear i1'; have ci1 := i1.1; have fi1 := i1.2.1; have zi1 := i1.2.2))
          all_goals
            go_wp2
            go_ret
            exact ⟨ret_int (by rw [hr.out]), (by repeat (first | (with_reducible exact Below.refl _ _) | (with_reducible assumption) | (with_reducible refine below_go ?_ (by with_reducible assumption)) | (with_reducible refine below_new ?_ _) | ((with_reducible refine below_put ?_ ?_ _); rotate_left; (dsimp only; omega)) | (with_reducible refine Below.drew ?_) | (with_reducible refine below_dn ?_ _)))⟩
        · have q2 : ∀ w, (binOp .eql 53 (.agg #[.int .i64 Z, .int .i64 T]) (.agg #[.int .i64 z, .int .i64 t])).run Try.prog w = .ok (.bool false) w := fun w => by rw [run_eql_A2, c2, decide_eq_false h2]
          have H2 := hide h2
          clear c1 c2 h1 h2
          go_wp2_with fail
          go_region_held3 (fun w' => (w'.cell? ⟨w.heap.size, 0, none⟩ = some (.int .i64 x) ∧ w'.cell? ⟨w.heap.size, 1, none⟩ = some (.int .i64 y)) ∧ w'.cell? ⟨w.heap.size + 1, 0, none⟩ = some (.int .i64 z) ∧ w'.cell? ⟨w.heap.size + 1, 1, none⟩ = some (.int .i64 t)) (first
            | (with_reducible exact keepL i0 i1)
            | (with_reducible exact keepL (Has.drew i0) (Has.drew i1)))
            (first | (go_at_call 68; (with_reducible refine (hm0 _).mono ?_); rintro e w2 ⟨rfl, hb2⟩; have hB' : Below w.heap.size w w2 := below_go (by repeat (first | (with_reducible exact Below.refl _ _) | (with_reducible assumption) | (with_reducible refine below_go ?_ (by with_reducible assumption)) | (with_reducible refine below_new ?_ _) | ((with_reducible refine below_put ?_ ?_ _); rotate_left; (dsimp only; omega)) | (with_reducible refine Below.drew ?_) | (with_reducible refine below_dn ?_ _))) hb2; have i0' : Has w2 (w.heap.size) 2 _ := Has.call (by repeat (first | (with_reducible assumption) | (with_reducible apply Has.set) | ((with_reducible apply Has.other); (case hne => (dsimp only; omega))) | (with_reducible apply Has.alloc) | (with_reducible apply Has.drew) | (with_reducible apply Has.drewN))) hb2; have i1' : Has w2 (w.heap.size + 1) 2 _ := Has.call (by repeat (first | (with_reducible assumption) | (with_reducible apply Has.set) | ((with_reducible apply Has.other); (case hne => (dsimp only; omega))) | (with_reducible apply Has.alloc) | (with_reducible apply Has.drew) | (with_reducible apply Has.drewN))) hb2; clear hB hb2; have hB := hB'; clear hB'; (try clear fi0); (try clear zi0); (try clear ci0); clear i0; have i0 := i0'; clear i0'; have ci0 := i0.1; have fi0 := i0.2.1; have zi0 := i0.2.2; (try clear fi1); (try clear zi1); (try clear ci1); clear i1; have i1 := i1'; clear i1'; have ci1 := i1.1; have fi1 := i1.2.1; have zi1 := i1.2.2) | (go_at_call 68; (with_reducible refine (hm1 _).mono ?_); rintro e w2 ⟨rfl, hb2⟩; have hB' : Below w.heap.size w w2 := below_go (by repeat (first | (with_reducible exact Below.refl _ _) | (with_reducible assumption) | (with_reducible refine below_go ?_ (by with_reducible assumption)) | (with_reducible refine below_new ?_ _) | ((with_reducible refine below_put ?_ ?_ _); rotate_left; (dsimp only; omega)) | (with_reducible refine Below.drew ?_) | (with_reducible refine below_dn ?_ _))) hb2; have i0' : Has w2 (w.heap.size) 2 _ := Has.call (by repeat (first | (with_reducible assumption) | (with_reducible apply Has.set) | ((with_reducible apply Has.other); (case hne => (dsimp only; omega))) | (with_reducible apply Has.alloc) | (with_reducible apply Has.drew) | (with_reducible apply Has.drewN))) hb2; have i1' : Has w2 (w.heap.size + 1) 2 _ := Has.call (by repeat (first | (with_reducible assumption) | (with_reducible apply Has.set) | ((with_reducible apply Has.other); (case hne => (dsimp only; omega))) | (with_reducible apply Has.alloc) | (with_reducible apply Has.drew) | (with_reducible apply Has.drewN))) hb2; clear hB hb2; have hB := hB'; clear hB'; (try clear fi0); (try clear zi0); (try clear ci0); clear i0; have i0 := i0'; clear i0'; have ci0 := i0.1; have fi0 := i0.2.1; have zi0 := i0.2.2; (try clear fi1); (try clear zi1); (try clear ci1); clear i1; have i1 := i1'; clear i1'; have ci1 := i1.1; have fi1 := i1.2.1; have zi1 := i1.2.2))
          all_goals
            go_wp2
            go_roundw
            case rel => exact ⟨j + 1, by omega, by go_num, hide (all_succ hall.out fun hh => H2.out hh.2), (by repeat (first | (with_reducible exact Below.refl _ _) | (with_reducible assumption) | (with_reducible refine below_go ?_ (by with_reducible assumption)) | (with_reducible refine below_new ?_ _) | ((with_reducible refine below_put ?_ ?_ _); rotate_left; (dsimp only; omega)) | (with_reducible refine Below.drew ?_) | (with_reducible refine below_dn ?_ _))), (by repeat (first | (with_reducible assumption) | (with_reducible apply Has.set) | ((with_reducible apply Has.other); (case hne => (dsimp only; omega))) | (with_reducible apply Has.alloc) | (with_reducible apply Has.drew) | (with_reducible apply Has.drewN))), (by repeat (first | (with_reducible assumption) | (with_reducible apply Has.set) | ((with_reducible apply Has.other); (case hne => (dsimp only; omega))) | (with_reducible apply Has.alloc) | (with_reducible apply Has.drew) | (with_reducible apply Has.drewN)))⟩
            case measure => simp [intOf]; omega
      · have q1 : ∀ w, (binOp .eql 53 (.agg #[.int .i64 X, .int .i64 Y]) (.agg #[.int .i64 x, .int .i64 y])).run Try.prog w = .ok (.bool false) w := fun w => by rw [run_eql_A2, c1, decide_eq_false h1]
        have H1 := hide h1
        clear c1 c2 h1
        go_wp2_with fail
        first | (go_region_with (first | (go_at_call 68; (with_reducible refine (hm0 _).mono ?_); rintro e w2 ⟨rfl, hb2⟩; have hB' : Below w.heap.size w w2 := below_go (by repeat (first | (with_reducible exact Below.refl _ _) | (with_reducible assumption) | (with_reducible refine below_go ?_ (by with_reducible assumption)) | (with_reducible refine below_new ?_ _) | ((with_reducible refine below_put ?_ ?_ _); rotate_left; (dsimp only; omega)) | (with_reducible refine Below.drew ?_) | (with_reducible refine below_dn ?_ _))) hb2; have i0' : Has w2 (w.heap.size) 2 _ := Has.call (by repeat (first | (with_reducible assumption) | (with_reducible apply Has.set) | ((with_reducible apply Has.other); (case hne => (dsimp only; omega))) | (with_reducible apply Has.alloc) | (with_reducible apply Has.drew) | (with_reducible apply Has.drewN))) hb2; have i1' : Has w2 (w.heap.size + 1) 2 _ := Has.call (by repeat (first | (with_reducible assumption) | (with_reducible apply Has.set) | ((with_reducible apply Has.other); (case hne => (dsimp only; omega))) | (with_reducible apply Has.alloc) | (with_reducible apply Has.drew) | (with_reducible apply Has.drewN))) hb2; clear hB hb2; have hB := hB'; clear hB'; (try clear fi0); (try clear zi0); (try clear ci0); clear i0; have i0 := i0'; clear i0'; have ci0 := i0.1; have fi0 := i0.2.1; have zi0 := i0.2.2; (try clear fi1); (try clear zi1); (try clear ci1); clear i1; have i1 := i1'; clear i1'; have ci1 := i1.1; have fi1 := i1.2.1; have zi1 := i1.2.2) | fail)) | fail
        all_goals
          go_wp2
          go_roundw
          case rel => exact ⟨j + 1, by omega, by go_num, hide (all_succ hall.out fun hh => H1.out hh.1), (by repeat (first | (with_reducible exact Below.refl _ _) | (with_reducible assumption) | (with_reducible refine below_go ?_ (by with_reducible assumption)) | (with_reducible refine below_new ?_ _) | ((with_reducible refine below_put ?_ ?_ _); rotate_left; (dsimp only; omega)) | (with_reducible refine Below.drew ?_) | (with_reducible refine below_dn ?_ _))), (by repeat (first | (with_reducible assumption) | (with_reducible apply Has.set) | ((with_reducible apply Has.other); (case hne => (dsimp only; omega))) | (with_reducible apply Has.alloc) | (with_reducible apply Has.drew) | (with_reducible apply Has.drewN))), (by repeat (first | (with_reducible assumption) | (with_reducible apply Has.set) | ((with_reducible apply Has.other); (case hne => (dsimp only; omega))) | (with_reducible apply Has.alloc) | (with_reducible apply Has.drew) | (with_reducible apply Has.drewN)))⟩
          case measure => simp [intOf]; omega

end Go.Proofs.Ytegdnfmhhigjfaa
