/-
  Contracts: a quarter and a mirror of a board, as the reference makes them.
-/
import Derived.Test.YtegdnfmhhigjfaaQBoard1
namespace Go.Proofs.Ytegdnfmhhigjfaa
open Go.RowKit

def quarter (b : Nat → Int) : Nat → Int := fun p => b (4 * (3 - p % 4) + p / 4)
def mirror (b : Nat → Int) : Nat → Int := fun p => b (4 * (p / 4) + (3 - p % 4))

/-- A board that is filled, cell by cell: what it holds after n of 16 steps, where step n puts b n to place d n. -/
def filled (b : Nat → Int) (d : Nat → Nat) : Nat → Nat → Int
  | 0, _ => 0
  | n + 1, o => if o = d n then b n else filled b d n o
theorem filled_step (b : Nat → Int) (d : Nat → Nat) (n o : Nat) : (if o = d n then Value.int .i64 (b n) else Value.int .i64 (filled b d n o)) = Value.int .i64 (filled b d (n + 1) o) := by
  simp only [filled]; split <;> rfl
def FillS (w wr : World) (b : Nat → Int) (d : Nat → Nat) (n : Nat) : Prop :=
  Below w.heap.size w wr ∧ Has wr w.heap.size 16 (fun o => .int .i64 (b o)) ∧ Has wr (w.heap.size + 1) 16 (fun _ => .int .i64 0) ∧ Has wr (w.heap.size + 1 + 1) 16 (fun o => .int .i64 (filled b d n o))
def quarterTo (n : Nat) : Nat := 4 * (n % 4) + (3 - n / 4)
def mirrorTo (n : Nat) : Nat := 4 * (n / 4) + (3 - n % 4)

theorem filled_quarter (b : Nat → Int) : ∀ o, o < 16 → filled b quarterTo 16 o = quarter b o := by
  intro o ho
  rcases (by omega : o = 0 ∨ o = 1 ∨ o = 2 ∨ o = 3 ∨ o = 4 ∨ o = 5 ∨ o = 6 ∨ o = 7 ∨ o = 8 ∨ o = 9 ∨ o = 10 ∨ o = 11 ∨ o = 12 ∨ o = 13 ∨ o = 14 ∨ o = 15) with rfl | rfl | rfl | rfl | rfl | rfl | rfl | rfl | rfl | rfl | rfl | rfl | rfl | rfl | rfl | rfl <;> rfl

set_option maxHeartbeats 4000000 in
set_option maxRecDepth 100000 in
theorem l3Quarter_any (b : Nat → Int) (w : World) : Calls Try.prog 114 #[.agg #[.int .i64 (b 0), .int .i64 (b 1), .int .i64 (b 2), .int .i64 (b 3), .int .i64 (b 4), .int .i64 (b 5), .int .i64 (b 6), .int .i64 (b 7), .int .i64 (b 8), .int .i64 (b 9), .int .i64 (b 10), .int .i64 (b 11), .int .i64 (b 12), .int .i64 (b 13), .int .i64 (b 14), .int .i64 (b 15)]] w fun e w' => e = .returned (.agg #[.int .i64 (quarter b 0), .int .i64 (quarter b 1), .int .i64 (quarter b 2), .int .i64 (quarter b 3), .int .i64 (quarter b 4), .int .i64 (quarter b 5), .int .i64 (quarter b 6), .int .i64 (quarter b 7), .int .i64 (quarter b 8), .int .i64 (quarter b 9), .int .i64 (quarter b 10), .int .i64 (quarter b 11), .int .i64 (quarter b 12), .int .i64 (quarter b 13), .int .i64 (quarter b 14), .int .i64 (quarter b 15)]) ∧ Below w.heap.size w w' := by
  go_enter Try.func114, Try.ntmps114
  go_wp2
  generalize hW : ((w.alloc _).alloc _).alloc _ = w1
  have S0 : FillS w w1 b quarterTo 0 := by
    rw [← hW]
    refine ⟨(by repeat (first | (with_reducible exact Below.refl _ _) | (with_reducible assumption) | (with_reducible refine below_go ?_ (by with_reducible assumption)) | (with_reducible refine below_new ?_ _) | ((with_reducible refine below_put ?_ ?_ _); rotate_left; (dsimp only; omega)) | (with_reducible refine Below.drew ?_) | (with_reducible refine below_dn ?_ _))), ?_, ?_, ?_⟩ <;> (repeat (first | (refine Has.new ?_ rfl; simp; done) | refine Has.alloc ?_ _))
  clear hW
  go_loopw [4] (fun i wr => ∃ r : Nat, r ≤ 4 ∧ i = .int .i64 r ∧ FillS w wr b quarterTo (4 * r)) (fun i _ => 4 - (intOf i).toNat)
  case atStart => exact ⟨0, by omega, rfl, S0⟩
  case round =>
    clear S0
    obtain ⟨r, hr, rfl, hB, i0, i1, i2⟩ := hrel
    by_cases h4 : r = 4
    · subst h4
      have i2 := i2.congr (d := fun o => .int .i64 (quarter b o)) (fun o ho => by rw [← filled_quarter b o ho])
      have ci0 := i0.1; have fi0 := i0.2.1; have zi0 := i0.2.2
      have ci1 := i1.1; have fi1 := i1.2.1; have zi1 := i1.2.2
      have ci2 := i2.1; have fi2 := i2.2.1; have zi2 := i2.2.2
      go_wp2_with (first | (refine load_Board rfl _ rfl _ _ rfl (by repeat (first | (with_reducible assumption) | (with_reducible apply Has.set) | ((with_reducible apply Has.other); (case hne => (dsimp only; omega))) | (with_reducible apply Has.alloc) | (with_reducible apply Has.drew) | (with_reducible apply Has.drewN))) (by omega) ?_) | (refine store_Board rfl _ _ rfl _ _ _ _ _ _ _ _ _ _ _ _ _ _ _ _ _ _ rfl rfl rfl (by repeat (first | (with_reducible assumption) | (with_reducible apply Has.set) | ((with_reducible apply Has.other); (case hne => (dsimp only; omega))) | (with_reducible apply Has.alloc) | (with_reducible apply Has.drew) | (with_reducible apply Has.drewN))) (by omega) ?_; intro w3 ho3 hn3; have hB' : Below w.heap.size w w3 := below_only (by repeat (first | (with_reducible exact Below.refl _ _) | (with_reducible assumption) | (with_reducible refine below_go ?_ (by with_reducible assumption)) | (with_reducible refine below_new ?_ _) | ((with_reducible refine below_put ?_ ?_ _); rotate_left; (dsimp only; omega)) | (with_reducible refine Below.drew ?_) | (with_reducible refine below_dn ?_ _))) ho3 (by omega); have i0' : Has w3 (w.heap.size) 16 _ := (by first | (with_reducible exact hn3) | exact Has.only (by repeat (first | (with_reducible assumption) | (with_reducible apply Has.set) | ((with_reducible apply Has.other); (case hne => (dsimp only; omega))) | (with_reducible apply Has.alloc) | (with_reducible apply Has.drew) | (with_reducible apply Has.drewN))) ho3 (by omega)); have i1' : Has w3 (w.heap.size + 1) 16 _ := (by first | (with_reducible exact hn3) | exact Has.only (by repeat (first | (with_reducible assumption) | (with_reducible apply Has.set) | ((with_reducible apply Has.other); (case hne => (dsimp only; omega))) | (with_reducible apply Has.alloc) | (with_reducible apply Has.drew) | (with_reducible apply Has.drewN))) ho3 (by omega)); have i2' : Has w3 (w.heap.size + 1 + 1) 16 _ := (by first | (with_reducible exact hn3) | exact Has.only (by repeat (first | (with_reducible assumption) | (with_reducible apply Has.set) | ((with_reducible apply Has.other); (case hne => (dsimp only; omega))) | (with_reducible apply Has.alloc) | (with_reducible apply Has.drew) | (with_reducible apply Has.drewN))) ho3 (by omega)); clear ho3 hn3; clear hB; have hB := hB'; clear hB'; (try clear fi0); (try clear zi0); (try clear ci0); clear i0; have i0 := i0'; clear i0'; have ci0 := i0.1; have fi0 := i0.2.1; have zi0 := i0.2.2; (try clear fi1); (try clear zi1); (try clear ci1); clear i1; have i1 := i1'; clear i1'; have ci1 := i1.1; have fi1 := i1.2.1; have zi1 := i1.2.2; (try clear fi2); (try clear zi2); (try clear ci2); clear i2; have i2 := i2'; clear i2'; have ci2 := i2.1; have fi2 := i2.2.1; have zi2 := i2.2.2))
      refine bodyPost_ret (results_cell rfl rfl (loadVar_Board i1 (by omega))) rfl ⟨rfl, (by repeat (first | (with_reducible exact Below.refl _ _) | (with_reducible assumption) | (with_reducible refine below_go ?_ (by with_reducible assumption)) | (with_reducible refine below_new ?_ _) | ((with_reducible refine below_put ?_ ?_ _); rotate_left; (dsimp only; omega)) | (with_reducible refine Below.drew ?_) | (with_reducible refine below_dn ?_ _)))⟩
    · have hlt : r < 4 := by omega
      have S1 : FillS w wr b quarterTo (4 * r + 0) := ⟨hB, i0, i1, i2⟩
      clear h4 hr hB i0 i1 i2
      go_wp2_with fail
      go_loopw [5] (fun j ws => ∃ c : Nat, c ≤ 4 ∧ j = .int .i64 c ∧ FillS w ws b quarterTo (4 * r + c)) (fun j _ => 4 - (intOf j).toNat)
      case atStart => exact ⟨0, by omega, rfl, S1⟩
      case round =>
        clear S1
        obtain ⟨c, hc, rfl, hB, i0, i1, i2⟩ := hrel
        by_cases h4 : c = 4
        · subst h4
          go_wp2
          go_roundw
          case rel => exact ⟨r + 1, by omega, by go_num, hB, i0, i1, i2⟩
          case measure => simp [intOf]; omega
        · have ci0 := i0.1; have fi0 := i0.2.1; have zi0 := i0.2.2
          have fi1 := i1.2.1; have zi1 := i1.2.2
          have fi2 := i2.2.1; have zi2 := i2.2.2
          rcases (by omega : c = 0 ∨ c = 1 ∨ c = 2 ∨ c = 3) with rfl | rfl | rfl | rfl <;> rcases (by omega : r = 0 ∨ r = 1 ∨ r = 2 ∨ r = 3) with rfl | rfl | rfl | rfl
          all_goals
            clear h4 hc hlt
            go_wp2_with (first | (refine store_int rfl _ _ rfl _ _ _ rfl rfl (by repeat (first | (with_reducible assumption) | (with_reducible apply Has.set) | ((with_reducible apply Has.other); (case hne => (dsimp only; omega))) | (with_reducible apply Has.alloc) | (with_reducible apply Has.drew) | (with_reducible apply Has.drewN))) (by omega) ?_; intro w3 ho3 hn3; have hB' : Below w.heap.size w w3 := below_only (by repeat (first | (with_reducible exact Below.refl _ _) | (with_reducible assumption) | (with_reducible refine below_go ?_ (by with_reducible assumption)) | (with_reducible refine below_new ?_ _) | ((with_reducible refine below_put ?_ ?_ _); rotate_left; (dsimp only; omega)) | (with_reducible refine Below.drew ?_) | (with_reducible refine below_dn ?_ _))) ho3 (by omega); have i0' : Has w3 (w.heap.size) 16 _ := (by first | (with_reducible exact hn3) | exact Has.only (by repeat (first | (with_reducible assumption) | (with_reducible apply Has.set) | ((with_reducible apply Has.other); (case hne => (dsimp only; omega))) | (with_reducible apply Has.alloc) | (with_reducible apply Has.drew) | (with_reducible apply Has.drewN))) ho3 (by omega)); have i1' : Has w3 (w.heap.size + 1) 16 _ := (by first | (with_reducible exact hn3) | exact Has.only (by repeat (first | (with_reducible assumption) | (with_reducible apply Has.set) | ((with_reducible apply Has.other); (case hne => (dsimp only; omega))) | (with_reducible apply Has.alloc) | (with_reducible apply Has.drew) | (with_reducible apply Has.drewN))) ho3 (by omega)); have i2' : Has w3 (w.heap.size + 1 + 1) 16 _ := (by first | (with_reducible exact hn3) | exact Has.only (by repeat (first | (with_reducible assumption) | (with_reducible apply Has.set) | ((with_reducible apply Has.other); (case hne => (dsimp only; omega))) | (with_reducible apply Has.alloc) | (with_reducible apply Has.drew) | (with_reducible apply Has.drewN))) ho3 (by omega)); clear ho3 hn3; clear hB; have hB := hB'; clear hB'; (try clear fi0); (try clear zi0); (try clear ci0); clear i0; have i0 := i0'; clear i0'; have ci0 := i0.1; have fi0 := i0.2.1; have zi0 := i0.2.2; (try clear fi1); (try clear zi1); (try clear ci1); clear i1; have i1 := i1'; clear i1'; have ci1 := i1.1; have fi1 := i1.2.1; have zi1 := i1.2.2; (try clear fi2); (try clear zi2); (try clear ci2); clear i2; have i2 := i2'; clear i2'; have ci2 := i2.1; have fi2 := i2.2.1; have zi2 := i2.2.2) | ((refine wp_region_still_tail 12 (by kernel_rfl) (by kernel_rfl) ?_); (simp only [List.take_succ_cons, List.take_zero, List.drop_succ_cons, List.drop_zero]); (change wpStill _ _ (World.drew _) _ _ _); (repeat still_step); (refine wpStill_nil ?_); (change wpList _ _ _ _ _ (World.drew _))))
            first
              | exact ⟨⟨1, by omega, rfl, hB, i0, i1, i2.congr fun o _ => Eq.trans (by rfl) (filled_step b quarterTo _ o)⟩, by simp [intOf]⟩
              | exact ⟨⟨2, by omega, rfl, hB, i0, i1, i2.congr fun o _ => Eq.trans (by rfl) (filled_step b quarterTo _ o)⟩, by simp [intOf]⟩
              | exact ⟨⟨3, by omega, rfl, hB, i0, i1, i2.congr fun o _ => Eq.trans (by rfl) (filled_step b quarterTo _ o)⟩, by simp [intOf]⟩
              | exact ⟨⟨4, by omega, rfl, hB, i0, i1, i2.congr fun o _ => Eq.trans (by rfl) (filled_step b quarterTo _ o)⟩, by simp [intOf]⟩

theorem filled_mirror (b : Nat → Int) : ∀ o, o < 16 → filled b mirrorTo 16 o = mirror b o := by
  intro o ho
  rcases (by omega : o = 0 ∨ o = 1 ∨ o = 2 ∨ o = 3 ∨ o = 4 ∨ o = 5 ∨ o = 6 ∨ o = 7 ∨ o = 8 ∨ o = 9 ∨ o = 10 ∨ o = 11 ∨ o = 12 ∨ o = 13 ∨ o = 14 ∨ o = 15) with rfl | rfl | rfl | rfl | rfl | rfl | rfl | rfl | rfl | rfl | rfl | rfl | rfl | rfl | rfl | rfl <;> rfl

set_option maxHeartbeats 4000000 in
set_option maxRecDepth 100000 in
theorem l3Mirror_any (b : Nat → Int) (w : World) : Calls Try.prog 115 #[.agg #[.int .i64 (b 0), .int .i64 (b 1), .int .i64 (b 2), .int .i64 (b 3), .int .i64 (b 4), .int .i64 (b 5), .int .i64 (b 6), .int .i64 (b 7), .int .i64 (b 8), .int .i64 (b 9), .int .i64 (b 10), .int .i64 (b 11), .int .i64 (b 12), .int .i64 (b 13), .int .i64 (b 14), .int .i64 (b 15)]] w fun e w' => e = .returned (.agg #[.int .i64 (mirror b 0), .int .i64 (mirror b 1), .int .i64 (mirror b 2), .int .i64 (mirror b 3), .int .i64 (mirror b 4), .int .i64 (mirror b 5), .int .i64 (mirror b 6), .int .i64 (mirror b 7), .int .i64 (mirror b 8), .int .i64 (mirror b 9), .int .i64 (mirror b 10), .int .i64 (mirror b 11), .int .i64 (mirror b 12), .int .i64 (mirror b 13), .int .i64 (mirror b 14), .int .i64 (mirror b 15)]) ∧ Below w.heap.size w w' := by
  go_enter Try.func115, Try.ntmps115
  go_wp2
  generalize hW : ((w.alloc _).alloc _).alloc _ = w1
  have S0 : FillS w w1 b mirrorTo 0 := by
    rw [← hW]
    refine ⟨(by repeat (first | (with_reducible exact Below.refl _ _) | (with_reducible assumption) | (with_reducible refine below_go ?_ (by with_reducible assumption)) | (with_reducible refine below_new ?_ _) | ((with_reducible refine below_put ?_ ?_ _); rotate_left; (dsimp only; omega)) | (with_reducible refine Below.drew ?_) | (with_reducible refine below_dn ?_ _))), ?_, ?_, ?_⟩ <;> (repeat (first | (refine Has.new ?_ rfl; simp; done) | refine Has.alloc ?_ _))
  clear hW
  go_loopw [4] (fun i wr => ∃ r : Nat, r ≤ 4 ∧ i = .int .i64 r ∧ FillS w wr b mirrorTo (4 * r)) (fun i _ => 4 - (intOf i).toNat)
  case atStart => exact ⟨0, by omega, rfl, S0⟩
  case round =>
    clear S0
    obtain ⟨r, hr, rfl, hB, i0, i1, i2⟩ := hrel
    by_cases h4 : r = 4
    · subst h4
      have i2 := i2.congr (d := fun o => .int .i64 (mirror b o)) (fun o ho => by rw [← filled_mirror b o ho])
      have ci0 := i0.1; have fi0 := i0.2.1; have zi0 := i0.2.2
      have ci1 := i1.1; have fi1 := i1.2.1; have zi1 := i1.2.2
      have ci2 := i2.1; have fi2 := i2.2.1; have zi2 := i2.2.2
      go_wp2_with (first | (refine load_Board rfl _ rfl _ _ rfl (by repeat (first | (with_reducible assumption) | (with_reducible apply Has.set) | ((with_reducible apply Has.other); (case hne => (dsimp only; omega))) | (with_reducible apply Has.alloc) | (with_reducible apply Has.drew) | (with_reducible apply Has.drewN))) (by omega) ?_) | (refine store_Board rfl _ _ rfl _ _ _ _ _ _ _ _ _ _ _ _ _ _ _ _ _ _ rfl rfl rfl (by repeat (first | (with_reducible assumption) | (with_reducible apply Has.set) | ((with_reducible apply Has.other); (case hne => (dsimp only; omega))) | (with_reducible apply Has.alloc) | (with_reducible apply Has.drew) | (with_reducible apply Has.drewN))) (by omega) ?_; intro w3 ho3 hn3; have hB' : Below w.heap.size w w3 := below_only (by repeat (first | (with_reducible exact Below.refl _ _) | (with_reducible assumption) | (with_reducible refine below_go ?_ (by with_reducible assumption)) | (with_reducible refine below_new ?_ _) | ((with_reducible refine below_put ?_ ?_ _); rotate_left; (dsimp only; omega)) | (with_reducible refine Below.drew ?_) | (with_reducible refine below_dn ?_ _))) ho3 (by omega); have i0' : Has w3 (w.heap.size) 16 _ := (by first | (with_reducible exact hn3) | exact Has.only (by repeat (first | (with_reducible assumption) | (with_reducible apply Has.set) | ((with_reducible apply Has.other); (case hne => (dsimp only; omega))) | (with_reducible apply Has.alloc) | (with_reducible apply Has.drew) | (with_reducible apply Has.drewN))) ho3 (by omega)); have i1' : Has w3 (w.heap.size + 1) 16 _ := (by first | (with_reducible exact hn3) | exact Has.only (by repeat (first | (with_reducible assumption) | (with_reducible apply Has.set) | ((with_reducible apply Has.other); (case hne => (dsimp only; omega))) | (with_reducible apply Has.alloc) | (with_reducible apply Has.drew) | (with_reducible apply Has.drewN))) ho3 (by omega)); have i2' : Has w3 (w.heap.size + 1 + 1) 16 _ := (by first | (with_reducible exact hn3) | exact Has.only (by repeat (first | (with_reducible assumption) | (with_reducible apply Has.set) | ((with_reducible apply Has.other); (case hne => (dsimp only; omega))) | (with_reducible apply Has.alloc) | (with_reducible apply Has.drew) | (with_reducible apply Has.drewN))) ho3 (by omega)); clear ho3 hn3; clear hB; have hB := hB'; clear hB'; (try clear fi0); (try clear zi0); (try clear ci0); clear i0; have i0 := i0'; clear i0'; have ci0 := i0.1; have fi0 := i0.2.1; have zi0 := i0.2.2; (try clear fi1); (try clear zi1); (try clear ci1); clear i1; have i1 := i1'; clear i1'; have ci1 := i1.1; have fi1 := i1.2.1; have zi1 := i1.2.2; (try clear fi2); (try clear zi2); (try clear ci2); clear i2; have i2 := i2'; clear i2'; have ci2 := i2.1; have fi2 := i2.2.1; have zi2 := i2.2.2))
      refine bodyPost_ret (results_cell rfl rfl (loadVar_Board i1 (by omega))) rfl ⟨rfl, (by repeat (first | (with_reducible exact Below.refl _ _) | (with_reducible assumption) | (with_reducible refine below_go ?_ (by with_reducible assumption)) | (with_reducible refine below_new ?_ _) | ((with_reducible refine below_put ?_ ?_ _); rotate_left; (dsimp only; omega)) | (with_reducible refine Below.drew ?_) | (with_reducible refine below_dn ?_ _)))⟩
    · have hlt : r < 4 := by omega
      have S1 : FillS w wr b mirrorTo (4 * r + 0) := ⟨hB, i0, i1, i2⟩
      clear h4 hr hB i0 i1 i2
      go_wp2_with fail
      go_loopw [5] (fun j ws => ∃ c : Nat, c ≤ 4 ∧ j = .int .i64 c ∧ FillS w ws b mirrorTo (4 * r + c)) (fun j _ => 4 - (intOf j).toNat)
      case atStart => exact ⟨0, by omega, rfl, S1⟩
      case round =>
        clear S1
        obtain ⟨c, hc, rfl, hB, i0, i1, i2⟩ := hrel
        by_cases h4 : c = 4
        · subst h4
          go_wp2
          go_roundw
          case rel => exact ⟨r + 1, by omega, by go_num, hB, i0, i1, i2⟩
          case measure => simp [intOf]; omega
        · have ci0 := i0.1; have fi0 := i0.2.1; have zi0 := i0.2.2
          have fi1 := i1.2.1; have zi1 := i1.2.2
          have fi2 := i2.2.1; have zi2 := i2.2.2
          rcases (by omega : c = 0 ∨ c = 1 ∨ c = 2 ∨ c = 3) with rfl | rfl | rfl | rfl <;> rcases (by omega : r = 0 ∨ r = 1 ∨ r = 2 ∨ r = 3) with rfl | rfl | rfl | rfl
          all_goals
            clear h4 hc hlt
            go_wp2_with (first | (refine store_int rfl _ _ rfl _ _ _ rfl rfl (by repeat (first | (with_reducible assumption) | (with_reducible apply Has.set) | ((with_reducible apply Has.other); (case hne => (dsimp only; omega))) | (with_reducible apply Has.alloc) | (with_reducible apply Has.drew) | (with_reducible apply Has.drewN))) (by omega) ?_; intro w3 ho3 hn3; have hB' : Below w.heap.size w w3 := below_only (by repeat (first | (with_reducible exact Below.refl _ _) | (with_reducible assumption) | (with_reducible refine below_go ?_ (by with_reducible assumption)) | (with_reducible refine below_new ?_ _) | ((with_reducible refine below_put ?_ ?_ _); rotate_left; (dsimp only; omega)) | (with_reducible refine Below.drew ?_) | (with_reducible refine below_dn ?_ _))) ho3 (by omega); have i0' : Has w3 (w.heap.size) 16 _ := (by first | (with_reducible exact hn3) | exact Has.only (by repeat (first | (with_reducible assumption) | (with_reducible apply Has.set) | ((with_reducible apply Has.other); (case hne => (dsimp only; omega))) | (with_reducible apply Has.alloc) | (with_reducible apply Has.drew) | (with_reducible apply Has.drewN))) ho3 (by omega)); have i1' : Has w3 (w.heap.size + 1) 16 _ := (by first | (with_reducible exact hn3) | exact Has.only (by repeat (first | (with_reducible assumption) | (with_reducible apply Has.set) | ((with_reducible apply Has.other); (case hne => (dsimp only; omega))) | (with_reducible apply Has.alloc) | (with_reducible apply Has.drew) | (with_reducible apply Has.drewN))) ho3 (by omega)); have i2' : Has w3 (w.heap.size + 1 + 1) 16 _ := (by first | (with_reducible exact hn3) | exact Has.only (by repeat (first | (with_reducible assumption) | (with_reducible apply Has.set) | ((with_reducible apply Has.other); (case hne => (dsimp only; omega))) | (with_reducible apply Has.alloc) | (with_reducible apply Has.drew) | (with_reducible apply Has.drewN))) ho3 (by omega)); clear ho3 hn3; clear hB; have hB := hB'; clear hB'; (try clear fi0); (try clear zi0); (try clear ci0); clear i0; have i0 := i0'; clear i0'; have ci0 := i0.1; have fi0 := i0.2.1; have zi0 := i0.2.2; (try clear fi1); (try clear zi1); (try clear ci1); clear i1; have i1 := i1'; clear i1'; have ci1 := i1.1; have fi1 := i1.2.1; have zi1 := i1.2.2; (try clear fi2); (try clear zi2); (try clear ci2); clear i2; have i2 := i2'; clear i2'; have ci2 := i2.1; have fi2 := i2.2.1; have zi2 := i2.2.2) | ((refine wp_region_still_tail 12 (by kernel_rfl) (by kernel_rfl) ?_); (simp only [List.take_succ_cons, List.take_zero, List.drop_succ_cons, List.drop_zero]); (change wpStill _ _ (World.drew _) _ _ _); (repeat still_step); (refine wpStill_nil ?_); (change wpList _ _ _ _ _ (World.drew _))))
            first
              | exact ⟨⟨1, by omega, rfl, hB, i0, i1, i2.congr fun o _ => Eq.trans (by rfl) (filled_step b mirrorTo _ o)⟩, by simp [intOf]⟩
              | exact ⟨⟨2, by omega, rfl, hB, i0, i1, i2.congr fun o _ => Eq.trans (by rfl) (filled_step b mirrorTo _ o)⟩, by simp [intOf]⟩
              | exact ⟨⟨3, by omega, rfl, hB, i0, i1, i2.congr fun o _ => Eq.trans (by rfl) (filled_step b mirrorTo _ o)⟩, by simp [intOf]⟩
              | exact ⟨⟨4, by omega, rfl, hB, i0, i1, i2.congr fun o _ => Eq.trans (by rfl) (filled_step b mirrorTo _ o)⟩, by simp [intOf]⟩

end Go.Proofs.Ytegdnfmhhigjfaa
