/-
  Contracts: EmptyCells, the program's and the reference's.
-/
import Derived.Test.YtegdnfmhhigjfaaQSumOf
import Derived.Test.YtegdnfmhhigjfaaQTiles
import Derived.Test.YtegdnfmhhigjfaaSlide
import Derived.Test.YtegdnfmhhigjfaaQEqlB
import Derived.Test.YtegdnfmhhigjfaaQSkD
namespace Go.Proofs.Ytegdnfmhhigjfaa
open Go.RowKit

theorem emC_ints (b : Nat → Int) : emC b 16 = ints (plF (emL b 16)) := by
  simp [emC, ints, plF, List.map_flatMap]
def emO (b : Nat → Int) : List Nat := if bdB b = true then emL b 16 else []
theorem emO_len (b : Nat → Int) : (emO b).length ≤ 16 := by
  have := emL_len b 16
  unfold emO; split
  · exact this
  · simp

set_option maxHeartbeats 4000000 in
theorem empty_any (b : Nat → Int) (w : World) : Calls Try.prog 91 #[.agg #[.int .i64 (b 0), .int .i64 (b 1), .int .i64 (b 2), .int .i64 (b 3), .int .i64 (b 4), .int .i64 (b 5), .int .i64 (b 6), .int .i64 (b 7), .int .i64 (b 8), .int .i64 (b 9), .int .i64 (b 10), .int .i64 (b 11), .int .i64 (b 12), .int .i64 (b 13), .int .i64 (b 14), .int .i64 (b 15)]] w fun e w' => ∃ A cap, e = .returned (.slice A (emL b 16).length cap) ∧ Sl w' w.heap.size A ((emL b 16).length * 2) (fI (plF (emL b 16))) ∧ Below w.heap.size w w' := by
  go_enter Try.func91, Try.ntmps91
  go_upto_region 1 with (fail)
  generalize hW : w.alloc _ = w1
  have hB : Below w.heap.size w w1 := by (rw [← hW]; exact (by repeat (first | (with_reducible exact Below.refl _ _) | (with_reducible assumption) | (with_reducible refine below_go ?_ (by with_reducible assumption)) | (with_reducible refine below_new ?_ _) | ((with_reducible refine below_put ?_ ?_ _); rotate_left; (dsimp only; omega)) | (with_reducible refine Below.drew ?_) | (with_reducible refine below_dn ?_ _))))
  have hsz : Hid (w1.heap.size = w.heap.size + 1) := hide (by rw [← hW]; simp)
  have i0 : Has w1 (w.heap.size) 16 (fun o => .int .i64 (b o)) := by (rw [← hW]; repeat (first | (refine Has.new ?_ rfl; simp; done) | refine Has.alloc ?_ _))
  have ci0 := i0.1; have fi0 := i0.2.1; have zi0 := i0.2.2
  clear hW
  go_wp2_with (go_at_call 103; (with_reducible refine (cells_any _).mono ?_); rintro e w2 ⟨g, cap, rfl, hg, hcap, iC, hb2⟩; have hB' : Below w.heap.size w w2 := below_go (by repeat (first | (with_reducible exact Below.refl _ _) | (with_reducible assumption) | (with_reducible refine below_go ?_ (by with_reducible assumption)) | (with_reducible refine below_new ?_ _) | ((with_reducible refine below_put ?_ ?_ _); rotate_left; (dsimp only; omega)) | (with_reducible refine Below.drew ?_) | (with_reducible refine below_dn ?_ _))) hb2; have i0' : Has w2 (w.heap.size) 16 _ := Has.call (by repeat (first | (with_reducible assumption) | (with_reducible apply Has.set) | ((with_reducible apply Has.other); (case hne => (dsimp only; omega))) | (with_reducible apply Has.alloc) | (with_reducible apply Has.drew) | (with_reducible apply Has.drewN))) hb2; clear hB hb2; have hB := hB'; clear hB'; (try clear fi0); (try clear zi0); (try clear ci0); clear i0; have i0 := i0'; clear i0'; have ci0 := i0.1; have fi0 := i0.2.1; have zi0 := i0.2.2)
  have hg1 : w.heap.size < g := by have := hsz.out; omega
  refine (deleteDel_any b w.heap.size g w.heap.size cap hcap _ (by have := hB.size; omega) (by omega) (by omega) i0 iC).mono ?_
  rintro e w3 ⟨rfl, hb3, hS⟩
  have hB3 := hB.trans hb3
  clear hb3 hB iC i0
  go_wp2
  go_ret
  exact ⟨_, _, rfl, hS, hB3⟩

set_option maxHeartbeats 4000000 in
set_option maxRecDepth 100000 in
theorem emptyCells_own (b : Nat → Int) (w : World) : Calls Try.prog 35 #[.agg #[.int .i64 (b 0), .int .i64 (b 1), .int .i64 (b 2), .int .i64 (b 3), .int .i64 (b 4), .int .i64 (b 5), .int .i64 (b 6), .int .i64 (b 7), .int .i64 (b 8), .int .i64 (b 9), .int .i64 (b 10), .int .i64 (b 11), .int .i64 (b 12), .int .i64 (b 13), .int .i64 (b 14), .int .i64 (b 15)]] w fun e w' => ∃ A cap, e = .returned (.tuple #[.slice A (emO b).length cap, .bool (bdB b)]) ∧ Sl w' w.heap.size A ((emO b).length * 2) (fI (plF (emO b))) ∧ Below w.heap.size w w' := by
  cases hb : bdB b
  · have e0 : emO b = [] := by simp [emO, hb]
    rw [e0]
    clear e0
    go_enter Try.func35, Try.ntmps35
    go_upto_region 1 with (fail)
    generalize hW : w.alloc _ = w1
    have hB : Below w.heap.size w w1 := by (rw [← hW]; exact (by repeat (first | (with_reducible exact Below.refl _ _) | (with_reducible assumption) | (with_reducible refine below_go ?_ (by with_reducible assumption)) | (with_reducible refine below_new ?_ _) | ((with_reducible refine below_put ?_ ?_ _); rotate_left; (dsimp only; omega)) | (with_reducible refine Below.drew ?_) | (with_reducible refine below_dn ?_ _))))
    have hsz : Hid (w1.heap.size = w.heap.size + 1) := hide (by rw [← hW]; simp)
    have i0 : Has w1 (w.heap.size) 16 (fun o => .int .i64 (b o)) := by (rw [← hW]; repeat (first | (refine Has.new ?_ rfl; simp; done) | refine Has.alloc ?_ _))
    have ci0 := i0.1; have fi0 := i0.2.1; have zi0 := i0.2.2
    clear hW
    go_wp2_with (first | (go_at_call 27; (with_reducible refine (Calls.bool_as (isBoard_any b _) hb).mono ?_); rintro e w2 ⟨rfl, hb2⟩; have hB' : Below w.heap.size w w2 := below_go (by repeat (first | (with_reducible exact Below.refl _ _) | (with_reducible assumption) | (with_reducible refine below_go ?_ (by with_reducible assumption)) | (with_reducible refine below_new ?_ _) | ((with_reducible refine below_put ?_ ?_ _); rotate_left; (dsimp only; omega)) | (with_reducible refine Below.drew ?_) | (with_reducible refine below_dn ?_ _))) hb2; have i0' : Has w2 (w.heap.size) 16 _ := Has.call (by repeat (first | (with_reducible assumption) | (with_reducible apply Has.set) | ((with_reducible apply Has.other); (case hne => (dsimp only; omega))) | (with_reducible apply Has.alloc) | (with_reducible apply Has.drew) | (with_reducible apply Has.drewN))) hb2; clear hB hb2; have hB := hB'; clear hB'; (try clear fi0); (try clear zi0); (try clear ci0); clear i0; have i0 := i0'; clear i0'; have ci0 := i0.1; have fi0 := i0.2.1; have zi0 := i0.2.2) | (refine load_Board rfl _ rfl _ _ rfl (by repeat (first | (with_reducible assumption) | (with_reducible apply Has.set) | ((with_reducible apply Has.other); (case hne => (dsimp only; omega))) | (with_reducible apply Has.alloc) | (with_reducible apply Has.drew) | (with_reducible apply Has.drewN))) (by omega) ?_))
    go_ret2
    exact ⟨_, _, rfl, sl_zero _ _ _ _, (by repeat (first | (with_reducible exact Below.refl _ _) | (with_reducible assumption) | (with_reducible refine below_go ?_ (by with_reducible assumption)) | (with_reducible refine below_new ?_ _) | ((with_reducible refine below_put ?_ ?_ _); rotate_left; (dsimp only; omega)) | (with_reducible refine Below.drew ?_) | (with_reducible refine below_dn ?_ _)))⟩
  · have e0 := hide (show emO b = emL b 16 from if_pos hb)
    rw [e0.out]
    go_enter Try.func35, Try.ntmps35
    go_upto_region 1 with (fail)
    generalize hW : w.alloc _ = w1
    have hB : Below w.heap.size w w1 := by (rw [← hW]; exact (by repeat (first | (with_reducible exact Below.refl _ _) | (with_reducible assumption) | (with_reducible refine below_go ?_ (by with_reducible assumption)) | (with_reducible refine below_new ?_ _) | ((with_reducible refine below_put ?_ ?_ _); rotate_left; (dsimp only; omega)) | (with_reducible refine Below.drew ?_) | (with_reducible refine below_dn ?_ _))))
    have hsz : Hid (w1.heap.size = w.heap.size + 1) := hide (by rw [← hW]; simp)
    have i0 : Has w1 (w.heap.size) 16 (fun o => .int .i64 (b o)) := by (rw [← hW]; repeat (first | (refine Has.new ?_ rfl; simp; done) | refine Has.alloc ?_ _))
    have ci0 := i0.1; have fi0 := i0.2.1; have zi0 := i0.2.2
    clear hW
    go_wp2_with (first | (go_at_call 27; (with_reducible refine (Calls.bool_as (isBoard_any b _) hb).mono ?_); rintro e w2 ⟨rfl, hb2⟩; have hB' : Below w.heap.size w w2 := below_go (by repeat (first | (with_reducible exact Below.refl _ _) | (with_reducible assumption) | (with_reducible refine below_go ?_ (by with_reducible assumption)) | (with_reducible refine below_new ?_ _) | ((with_reducible refine below_put ?_ ?_ _); rotate_left; (dsimp only; omega)) | (with_reducible refine Below.drew ?_) | (with_reducible refine below_dn ?_ _))) hb2; have i0' : Has w2 (w.heap.size) 16 _ := Has.call (by repeat (first | (with_reducible assumption) | (with_reducible apply Has.set) | ((with_reducible apply Has.other); (case hne => (dsimp only; omega))) | (with_reducible apply Has.alloc) | (with_reducible apply Has.drew) | (with_reducible apply Has.drewN))) hb2; clear hB hb2; have hB := hB'; clear hB'; (try clear fi0); (try clear zi0); (try clear ci0); clear i0; have i0 := i0'; clear i0'; have ci0 := i0.1; have fi0 := i0.2.1; have zi0 := i0.2.2) | (refine load_Board rfl _ rfl _ _ rfl (by repeat (first | (with_reducible assumption) | (with_reducible apply Has.set) | ((with_reducible apply Has.other); (case hne => (dsimp only; omega))) | (with_reducible apply Has.alloc) | (with_reducible apply Has.drew) | (with_reducible apply Has.drewN))) (by omega) ?_) | (go_at_call 91; (with_reducible refine (empty_any _ _).mono ?_); rintro e w2 ⟨A, cap, rfl, hS, hb2⟩; have hS := hS.mono (Nat.le_of_lt zi0); have hB' : Below w.heap.size w w2 := below_go (by repeat (first | (with_reducible exact Below.refl _ _) | (with_reducible assumption) | (with_reducible refine below_go ?_ (by with_reducible assumption)) | (with_reducible refine below_new ?_ _) | ((with_reducible refine below_put ?_ ?_ _); rotate_left; (dsimp only; omega)) | (with_reducible refine Below.drew ?_) | (with_reducible refine below_dn ?_ _))) hb2; have i0' : Has w2 (w.heap.size) 16 _ := Has.call (by repeat (first | (with_reducible assumption) | (with_reducible apply Has.set) | ((with_reducible apply Has.other); (case hne => (dsimp only; omega))) | (with_reducible apply Has.alloc) | (with_reducible apply Has.drew) | (with_reducible apply Has.drewN))) hb2; clear hB hb2; have hB := hB'; clear hB'; (try clear fi0); (try clear zi0); (try clear ci0); clear i0; have i0 := i0'; clear i0'; have ci0 := i0.1; have fi0 := i0.2.1; have zi0 := i0.2.2))
    go_ret2
    exact ⟨_, _, rfl, hS, (by repeat (first | (with_reducible exact Below.refl _ _) | (with_reducible assumption) | (with_reducible refine below_go ?_ (by with_reducible assumption)) | (with_reducible refine below_new ?_ _) | ((with_reducible refine below_put ?_ ?_ _); rotate_left; (dsimp only; omega)) | (with_reducible refine Below.drew ?_) | (with_reducible refine below_dn ?_ _)))⟩

set_option maxHeartbeats 4000000 in
set_option maxRecDepth 100000 in
theorem specEmptyCells_own (b : Nat → Int) (w : World) : Calls Try.prog 43 #[.agg #[.int .i64 (b 0), .int .i64 (b 1), .int .i64 (b 2), .int .i64 (b 3), .int .i64 (b 4), .int .i64 (b 5), .int .i64 (b 6), .int .i64 (b 7), .int .i64 (b 8), .int .i64 (b 9), .int .i64 (b 10), .int .i64 (b 11), .int .i64 (b 12), .int .i64 (b 13), .int .i64 (b 14), .int .i64 (b 15)]] w fun e w' => ∃ A cap, e = .returned (.tuple #[.slice A (emO b).length cap, .bool (bdB b)]) ∧ Sl w' w.heap.size A ((emO b).length * 2) (fI (plF (emO b))) ∧ Below w.heap.size w w' := by
  cases hb : bdB b
  · have e0 : emO b = [] := by simp [emO, hb]
    rw [e0]
    clear e0
    go_enter Try.func43, Try.ntmps43
    go_upto_region 1 with (fail)
    generalize hW : w.alloc _ = w1
    have hB : Below w.heap.size w w1 := by (rw [← hW]; exact (by repeat (first | (with_reducible exact Below.refl _ _) | (with_reducible assumption) | (with_reducible refine below_go ?_ (by with_reducible assumption)) | (with_reducible refine below_new ?_ _) | ((with_reducible refine below_put ?_ ?_ _); rotate_left; (dsimp only; omega)) | (with_reducible refine Below.drew ?_) | (with_reducible refine below_dn ?_ _))))
    have hsz : Hid (w1.heap.size = w.heap.size + 1) := hide (by rw [← hW]; simp)
    have i0 : Has w1 (w.heap.size) 16 (fun o => .int .i64 (b o)) := by (rw [← hW]; repeat (first | (refine Has.new ?_ rfl; simp; done) | refine Has.alloc ?_ _))
    have ci0 := i0.1; have fi0 := i0.2.1; have zi0 := i0.2.2
    clear hW
    go_wp2_with (first | (go_at_call 64; (with_reducible refine (Calls.bool_as (l2Board_any b _) hb).mono ?_); rintro e w2 ⟨rfl, hb2⟩; have hB' : Below w.heap.size w w2 := below_go (by repeat (first | (with_reducible exact Below.refl _ _) | (with_reducible assumption) | (with_reducible refine below_go ?_ (by with_reducible assumption)) | (with_reducible refine below_new ?_ _) | ((with_reducible refine below_put ?_ ?_ _); rotate_left; (dsimp only; omega)) | (with_reducible refine Below.drew ?_) | (with_reducible refine below_dn ?_ _))) hb2; have i0' : Has w2 (w.heap.size) 16 _ := Has.call (by repeat (first | (with_reducible assumption) | (with_reducible apply Has.set) | ((with_reducible apply Has.other); (case hne => (dsimp only; omega))) | (with_reducible apply Has.alloc) | (with_reducible apply Has.drew) | (with_reducible apply Has.drewN))) hb2; clear hB hb2; have hB := hB'; clear hB'; (try clear fi0); (try clear zi0); (try clear ci0); clear i0; have i0 := i0'; clear i0'; have ci0 := i0.1; have fi0 := i0.2.1; have zi0 := i0.2.2) | (refine load_Board rfl _ rfl _ _ rfl (by repeat (first | (with_reducible assumption) | (with_reducible apply Has.set) | ((with_reducible apply Has.other); (case hne => (dsimp only; omega))) | (with_reducible apply Has.alloc) | (with_reducible apply Has.drew) | (with_reducible apply Has.drewN))) (by omega) ?_))
    go_ret2
    exact ⟨_, _, rfl, sl_zero _ _ _ _, (by repeat (first | (with_reducible exact Below.refl _ _) | (with_reducible assumption) | (with_reducible refine below_go ?_ (by with_reducible assumption)) | (with_reducible refine below_new ?_ _) | ((with_reducible refine below_put ?_ ?_ _); rotate_left; (dsimp only; omega)) | (with_reducible refine Below.drew ?_) | (with_reducible refine below_dn ?_ _)))⟩
  · have e0 := hide (show emO b = emL b 16 from if_pos hb)
    rw [e0.out]
    have hE := hide (emC_ints b)
    go_enter Try.func43, Try.ntmps43
    go_upto_region 1 with (fail)
    generalize hW : w.alloc _ = w1
    have hB : Below w.heap.size w w1 := by (rw [← hW]; exact (by repeat (first | (with_reducible exact Below.refl _ _) | (with_reducible assumption) | (with_reducible refine below_go ?_ (by with_reducible assumption)) | (with_reducible refine below_new ?_ _) | ((with_reducible refine below_put ?_ ?_ _); rotate_left; (dsimp only; omega)) | (with_reducible refine Below.drew ?_) | (with_reducible refine below_dn ?_ _))))
    have hsz : Hid (w1.heap.size = w.heap.size + 1) := hide (by rw [← hW]; simp)
    have i0 : Has w1 (w.heap.size) 16 (fun o => .int .i64 (b o)) := by (rw [← hW]; repeat (first | (refine Has.new ?_ rfl; simp; done) | refine Has.alloc ?_ _))
    have ci0 := i0.1; have fi0 := i0.2.1; have zi0 := i0.2.2
    clear hW
    go_wp2_with (first | (go_at_call 64; (with_reducible refine (Calls.bool_as (l2Board_any b _) hb).mono ?_); rintro e w2 ⟨rfl, hb2⟩; have hB' : Below w.heap.size w w2 := below_go (by repeat (first | (with_reducible exact Below.refl _ _) | (with_reducible assumption) | (with_reducible refine below_go ?_ (by with_reducible assumption)) | (with_reducible refine below_new ?_ _) | ((with_reducible refine below_put ?_ ?_ _); rotate_left; (dsimp only; omega)) | (with_reducible refine Below.drew ?_) | (with_reducible refine below_dn ?_ _))) hb2; have i0' : Has w2 (w.heap.size) 16 _ := Has.call (by repeat (first | (with_reducible assumption) | (with_reducible apply Has.set) | ((with_reducible apply Has.other); (case hne => (dsimp only; omega))) | (with_reducible apply Has.alloc) | (with_reducible apply Has.drew) | (with_reducible apply Has.drewN))) hb2; clear hB hb2; have hB := hB'; clear hB'; (try clear fi0); (try clear zi0); (try clear ci0); clear i0; have i0 := i0'; clear i0'; have ci0 := i0.1; have fi0 := i0.2.1; have zi0 := i0.2.2) | (refine load_Board rfl _ rfl _ _ rfl (by repeat (first | (with_reducible assumption) | (with_reducible apply Has.set) | ((with_reducible apply Has.other); (case hne => (dsimp only; omega))) | (with_reducible apply Has.alloc) | (with_reducible apply Has.drew) | (with_reducible apply Has.drewN))) (by omega) ?_) | (go_at_call 93; (with_reducible refine (l2Empty_own _ _).mono ?_); rintro e w2 ⟨v, rfl, hown, hb2⟩; have hown := own_base hown (Nat.le_of_lt zi0); rw [hE.out] at hown; obtain ⟨A, cap, rfl, hS⟩ := cells_sl hown; clear hown; have hB' : Below w.heap.size w w2 := below_go (by repeat (first | (with_reducible exact Below.refl _ _) | (with_reducible assumption) | (with_reducible refine below_go ?_ (by with_reducible assumption)) | (with_reducible refine below_new ?_ _) | ((with_reducible refine below_put ?_ ?_ _); rotate_left; (dsimp only; omega)) | (with_reducible refine Below.drew ?_) | (with_reducible refine below_dn ?_ _))) hb2; have i0' : Has w2 (w.heap.size) 16 _ := Has.call (by repeat (first | (with_reducible assumption) | (with_reducible apply Has.set) | ((with_reducible apply Has.other); (case hne => (dsimp only; omega))) | (with_reducible apply Has.alloc) | (with_reducible apply Has.drew) | (with_reducible apply Has.drewN))) hb2; clear hB hb2; have hB := hB'; clear hB'; (try clear fi0); (try clear zi0); (try clear ci0); clear i0; have i0 := i0'; clear i0'; have ci0 := i0.1; have fi0 := i0.2.1; have zi0 := i0.2.2))
    go_ret2
    exact ⟨_, _, rfl, hS, (by repeat (first | (with_reducible exact Below.refl _ _) | (with_reducible assumption) | (with_reducible refine below_go ?_ (by with_reducible assumption)) | (with_reducible refine below_new ?_ _) | ((with_reducible refine below_put ?_ ?_ _); rotate_left; (dsimp only; omega)) | (with_reducible refine Below.drew ?_) | (with_reducible refine below_dn ?_ _)))⟩

end Go.Proofs.Ytegdnfmhhigjfaa

namespace Go.Proofs.Ytegdnfmhhigjfaa

def turnR (r : Nat → Int) : Nat → Int := fun k => r (3 - k)
theorem turnR_in {r : Nat → Int} (hr : ∀ i, i < 4 → 0 ≤ r i ∧ r i ≤ 17) : ∀ i, i < 4 → 0 ≤ turnR r i ∧ turnR r i ≤ 17 := fun i _ => hr (3 - i) (by omega)
theorem tilesL_turn (r : Nat → Int) : tilesL (turnR r) = (tilesL r).reverse := by
  show ([r 3, r 2, r 1, r 0] : List Int).filter _ = ((([r 0, r 1, r 2, r 3] : List Int).filter _)).reverse
  rw [← List.filter_reverse]; rfl
theorem SR.slid_congr {r q : Nat → Int} (h : ∀ i, i < 4 → r i = q i) : SR.slid r = SR.slid q := by
  simp only [SR.slid, SR.upto, h 0 (by omega), h 1 (by omega), h 2 (by omega), h 3 (by omega)]
theorem turn_turn (r : Nat → Int) : SR.slid (turnR (turnR r)) = SR.slid r := SR.slid_congr fun i hi => by
  show r (3 - (3 - i)) = r i
  congr 1; omega

/-- No two equal tiles stand side by side that could merge. -/
def noAdj (l : List Int) (n : Nat) : Prop := ∀ j, j + 1 < n → l.getD j 0 = l.getD (j + 1) 0 → 17 ≤ l.getD (j + 1) 0
theorem SR.full_iff {l : List Int} (h : ∀ t, t ∈ l → 1 ≤ t ∧ t ≤ 17) : ∀ k, k ≤ l.length → ((SR.tiles l k).n = k ↔ noAdj l k)
  | 0, _ => ⟨fun _ j hj => absurd hj (Nat.not_lt_zero _), fun _ => rfl⟩
  | k + 1, hk => by
    have ih := SR.full_iff h k (by omega)
    have ok := SR.ok_tiles h k (by omega)
    rw [SR.tiles_succ (by omega)]
    unfold SR.step
    by_cases hm : (SR.tiles l k).mer (l.getD k 0) = true
    · rw [if_pos hm]
      simp only [SR.merged]
      have := ok.n
      constructor
      · intro h1; omega
      · intro h1
        obtain ⟨m1, m2, m3, m4⟩ := SR.mer_true hm
        have h2 := ih.2 fun j hj => h1 j (by omega)
        have h3 := (SR.tiles_full h k (by omega) h2).1 (k - 1) (by omega)
        rw [h2] at m2
        have h4 := h1 (k - 1) (by omega) (by rw [← h3, m2]; congr 1; omega)
        rw [show k - 1 + 1 = k by omega] at h4
        omega
    · rw [if_neg hm]
      simp only [SR.pushed]
      constructor
      · intro h1 j hj hjj
        have h2 : (SR.tiles l k).n = k := by omega
        rcases Nat.lt_or_ge (j + 1) k with h5 | h5
        · exact ih.1 h2 j h5 hjj
        · obtain rfl : k = j + 1 := by omega
          have h3 := SR.tiles_full h (j + 1) (by omega) h2
          have h4 := h3.1 j (by omega)
          obtain ⟨t, ht⟩ : ∃ t, t = l.getD (j + 1) 0 := ⟨_, rfl⟩
          rw [← ht] at hm hjj ⊢
          simp only [SR.mer, h2, Nat.add_sub_cancel, h4, h3.2.1 j, hjj] at hm
          simp at hm
          omega
      · intro h1
        have := ih.2 fun j hj => h1 j (by omega)
        omega
theorem noAdj_reverse {l : List Int} (h : noAdj l l.length) : noAdj l.reverse l.reverse.length := by
  intro j hj he
  simp only [List.length_reverse] at hj
  have g : ∀ i, i < l.length → l.reverse.getD i 0 = l.getD (l.length - 1 - i) 0 := fun i hi => by
    simp only [List.getD]
    rw [List.getElem?_reverse hi]
  rw [g j (by omega), g (j + 1) (by omega)] at he
  rw [g (j + 1) (by omega)]
  have h2 := h (l.length - 1 - (j + 1)) (by omega)
  rw [show l.length - 1 - (j + 1) + 1 = l.length - 1 - j by omega] at h2
  have h3 := h2 he.symm
  omega
theorem score_noAdj {r : Nat → Int} (hr : ∀ i, i < 4 → 0 ≤ r i ∧ r i ≤ 17) : (SR.slid r).score = 0 ↔ noAdj (tilesL r) (tilesL r).length := by
  rw [slid_score_zero hr, SR.slid_tiles]
  exact SR.full_iff (tilesL_pos r hr) _ (Nat.le_refl _)
theorem score_turn {r : Nat → Int} (hr : ∀ i, i < 4 → 0 ≤ r i ∧ r i ≤ 17) : (SR.slid (turnR r)).score = 0 ↔ (SR.slid r).score = 0 := by
  rw [score_noAdj hr, score_noAdj (turnR_in hr), tilesL_turn]
  exact ⟨fun h => by have := noAdj_reverse h; simpa using this, noAdj_reverse⟩

/-- The greatest sum of scores of slides of a row. -/
def bestL : Nat → (Nat → Int) → Int
  | 0, _ => 0
  | f + 1, r => if (SR.slid r).score = 0 then 0 else max ((SR.slid r).score + bestL f (SR.slid r).out) ((SR.slid (turnR r)).score + bestL f (SR.slid (turnR r)).out)
theorem bestL_turn {r : Nat → Int} (hr : ∀ i, i < 4 → 0 ≤ r i ∧ r i ≤ 17) : ∀ f, bestL f (turnR r) = bestL f r
  | 0 => rfl
  | f + 1 => by
    simp only [bestL, turn_turn, score_turn hr]
    rw [Int.max_comm]
theorem bestL_le {r : Nat → Int} (hr : ∀ i, i < 4 → 0 ≤ r i ∧ r i ≤ 17) : ∀ f, 0 ≤ bestL f r ∧ bestL f r ≤ 1048576 * f
  | 0 => ⟨Int.le_refl _, Int.le_refl _⟩
  | f + 1 => by
    have o1 := SR.slid_ok hr
    have o2 := SR.slid_ok (turnR_in hr)
    have b1 := bestL_le (slid_in' hr) f
    have b2 := bestL_le (slid_in' (turnR_in hr)) f
    have := o1.lo; have := o1.hi; have := o2.lo; have := o2.hi
    simp only [bestL]
    split
    · omega
    · omega
theorem slid_less {r : Nat → Int} (hr : ∀ i, i < 4 → 0 ≤ r i ∧ r i ≤ 17) (h : (SR.slid r).score ≠ 0) : (tilesL (SR.slid r).out).length < (tilesL r).length := by
  rw [slid_len hr]
  have := SR.slid_n_le hr
  have h2 : (SR.slid r).n ≠ (tilesL r).length := fun e => h ((slid_score_zero hr).2 e)
  omega

/-- Whether a row slides alike to both of its ends, as the reference tells it. -/
def symB (r : Nat → Int) : Bool :=
  decide ((tilesL (SR.slid r).out).length = (tilesL (SR.slid (turnR r)).out).length) &&
    decide (∀ k, k < (tilesL (SR.slid (turnR r)).out).length → (SR.slid r).out k = (SR.slid (turnR r)).out ((tilesL (SR.slid (turnR r)).out).length - 1 - k))

end Go.Proofs.Ytegdnfmhhigjfaa

namespace Go.Proofs.Ytegdnfmhhigjfaa

/-- How many tiles stand behind what is there, its last one L, which has merged or not. -/
def mrg : Int → Bool → List Int → Nat
  | _, _, [] => 0
  | L, F, t :: l => if L = t ∧ t < 17 ∧ F = false then mrg (t + 1) true l else mrg t false l + 1
structure SR.At (s : SR) (L : Int) (F : Bool) : Prop where
  pos : 0 < s.n
  last : s.out (s.n - 1) = L
  mg : s.mg (s.n - 1) = F
  hi : ∀ j, s.n ≤ j → s.mg j = false
theorem fold_mrg : ∀ (l : List Int) (s : SR) (L : Int) (F : Bool), s.At L F → (l.foldl SR.step s).n = s.n + mrg L F l
  | [], s, L, F, _ => by simp [mrg]
  | t :: l, s, L, F, h => by
    rw [List.foldl_cons]
    simp only [mrg]
    have hp := h.pos
    by_cases hc : L = t ∧ t < 17 ∧ F = false
    · rw [if_pos hc]
      have hm : s.mer t = true := by
        simp only [SR.mer, h.last, h.mg, hc.1, hc.2.2]
        simp [hp, hc.2.1]
      have e : s.step t = s.merged t := if_pos hm
      rw [e]
      have h2 : (s.merged t).At (t + 1) true := ⟨hp, by simp [SR.merged], by simp [SR.merged], fun j hj => by
        have hj' : s.n ≤ j := hj
        have : j ≠ s.n - 1 := by omega
        simp only [SR.merged, this, if_false]
        exact h.hi j hj'⟩
      exact fold_mrg l _ _ _ h2
    · rw [if_neg hc]
      have hm : ¬ s.mer t = true := by
        intro hm
        obtain ⟨_, m2, m3, m4⟩ := SR.mer_true hm
        exact hc ⟨h.last.symm.trans m2, m3, h.mg.symm.trans m4⟩
      have e : s.step t = s.pushed t := if_neg hm
      rw [e]
      have h2 : (s.pushed t).At t false := ⟨by simp [SR.pushed], by simp [SR.pushed], by simp only [SR.pushed, Nat.add_sub_cancel]; exact h.hi _ (Nat.le_refl _), fun j hj => h.hi j (by have : s.n + 1 ≤ j := hj; omega)⟩
      rw [fold_mrg l _ _ _ h2]
      simp only [SR.pushed]
      omega
theorem fold_one (a : Int) (l : List Int) : ((a :: l).foldl SR.step SR.zero).n = 1 + mrg a false l := by
  rw [List.foldl_cons]
  have e : SR.zero.step a = SR.zero.pushed a := if_neg (by simp [SR.mer, SR.zero])
  rw [e]
  exact fold_mrg l _ a false ⟨by simp [SR.pushed], by simp [SR.pushed, SR.zero], by simp [SR.pushed, SR.zero], fun _ _ => rfl⟩
theorem n_rev4 (a b c d : Int) : mrg a false [b, c, d] = mrg d false [c, b, a] := by
  simp only [mrg, and_true, Bool.true_eq_false, and_false, if_false]
  split <;> split <;> split <;> (try split) <;> (try split) <;> (try split) <;> omega
theorem n_rev3 (a b c : Int) : mrg a false [b, c] = mrg c false [b, a] := by
  simp only [mrg, and_true, Bool.true_eq_false, and_false, if_false]
  split <;> split <;> (try split) <;> (try split) <;> omega
theorem n_rev2 (a b : Int) : mrg a false [b] = mrg b false [a] := by
  simp only [mrg, and_true]
  split <;> split <;> omega
theorem n_rev : ∀ l : List Int, l.length ≤ 4 → (l.foldl SR.step SR.zero).n = (l.reverse.foldl SR.step SR.zero).n
  | [], _ => rfl
  | [a], _ => rfl
  | [a, b], _ => by rw [show [a, b].reverse = [b, a] from rfl, fold_one, fold_one, n_rev2]
  | [a, b, c], _ => by rw [show [a, b, c].reverse = [c, b, a] from rfl, fold_one, fold_one, n_rev3]
  | [a, b, c, d], _ => by rw [show [a, b, c, d].reverse = [d, c, b, a] from rfl, fold_one, fold_one, n_rev4]
  | _ :: _ :: _ :: _ :: _ :: _, h => by simp at h
theorem n_turn (r : Nat → Int) : (SR.slid (turnR r)).n = (SR.slid r).n := by
  rw [← SR.foldl_tiles, ← SR.foldl_tiles, tilesL_turn]
  exact (n_rev _ (tilesL_len r)).symm

/-- How far a row is from settled. -/
def mu2 (r : Nat → Int) : Nat := (tilesL r).length + if flP r then 0 else 1
theorem flP_four {r : Nat → Int} (h : (tilesL r).length = 4) : flP r := by
  by_cases z0 : r 0 = 0 <;> by_cases z1 : r 1 = 0 <;> by_cases z2 : r 2 = 0 <;> by_cases z3 : r 3 = 0 <;> simp_all [tilesL] <;>
    (intro k hk hz; rcases (by omega : k = 0 ∨ k = 1 ∨ k = 2) with rfl | rfl | rfl <;> simp_all)
theorem mu2_le (r : Nat → Int) : mu2 r ≤ 4 := by
  have h4 := tilesL_len r
  unfold mu2
  by_cases h : (tilesL r).length = 4
  · rw [if_pos (flP_four h)]; omega
  · split <;> omega
theorem mu2_lt {r : Nat → Int} (hr : ∀ i, i < 4 → 0 ≤ r i ∧ r i ≤ 17) (h : ¬ fixP r) : mu2 (SR.slid r).out < mu2 r := by
  have h0 := muR_lt hr h
  unfold muR at h0
  unfold mu2
  rw [slid_len hr, if_pos (slid_flP hr)] at *
  have hle := SR.slid_n_le hr
  split at h0
  · rename_i hf
    rw [if_pos hf]; omega
  · rename_i hf
    rw [if_neg hf]; omega
theorem settle_le {r : Nat → Int} (hr : ∀ i, i < 4 → 0 ≤ r i ∧ r i ≤ 17) {K : Nat} (h : ∀ j, j < K → ¬ fixP (itR r j)) : K ≤ 4 := by
  have key : ∀ k, k ≤ K → mu2 (itR r k) + k ≤ mu2 r := by
    intro k
    induction k with
    | zero => intro _; exact Nat.le_refl _
    | succ k ih =>
      intro hk
      have h1 := ih (by omega)
      have h2 := mu2_lt (itR_in hr k) (h k (by omega))
      show mu2 (SR.slid (itR r k)).out + (k + 1) ≤ mu2 r
      omega
  have h1 := key K (Nat.le_refl _)
  have h2 := mu2_le r
  omega

theorem bestL_more : ∀ (f : Nat) (q : Nat → Int), (∀ i, i < 4 → 0 ≤ q i ∧ q i ≤ 17) → (tilesL q).length ≤ f → bestL (f + 1) q = bestL f q
  | 0, q, hq, h => by
    have e : (SR.slid q).score = 0 := by
      rw [score_noAdj hq]
      intro j hj
      omega
    simp [bestL, e]
  | f + 1, q, hq, h => by
    have e0 : ∀ k, bestL (k + 1) q = if (SR.slid q).score = 0 then 0 else max ((SR.slid q).score + bestL k (SR.slid q).out) ((SR.slid (turnR q)).score + bestL k (SR.slid (turnR q)).out) := fun k => rfl
    rw [e0 (f + 1), e0 f]
    by_cases e : (SR.slid q).score = 0
    · rw [if_pos e, if_pos e]
    · have e2 : (SR.slid (turnR q)).score ≠ 0 := fun h2 => e ((score_turn hq).1 h2)
      have l1 := slid_less hq e
      have l2 := slid_less (turnR_in hq) e2
      rw [tilesL_turn, List.length_reverse] at l2
      rw [if_neg e, if_neg e, bestL_more f _ (slid_in' hq) (by omega), bestL_more f _ (slid_in' (turnR_in hq)) (by omega)]
theorem score_next {r : Nat → Int} (hr : ∀ i, i < 4 → 0 ≤ r i ∧ r i ≤ 17) (h : (SR.slid r).score = 0) : (SR.slid (SR.slid r).out).score = 0 := by
  have hn := (slid_score_zero hr).1 h
  have hna := (score_noAdj hr).1 h
  have e : tilesL (SR.slid r).out = tilesL r := by
    rw [slid_tilesL hr, hn]
    have hf := SR.tiles_full (tilesL_pos r hr) (tilesL r).length (Nat.le_refl _) (by rw [← SR.slid_tiles]; exact hn)
    apply List.ext_getElem
    · simp
    · intro i h1 h2
      simp only [List.getElem_map, List.getElem_range, SR.slid_tiles]
      rw [hf.1 i h2]
      simp [h2]
  rw [score_noAdj (slid_in' hr), e]
  exact hna
/-- One slide and what can follow score at most the most. -/
theorem best_slide {r : Nat → Int} (hr : ∀ i, i < 4 → 0 ≤ r i ∧ r i ≤ 17) : (SR.slid r).score + bestL 5 (SR.slid r).out ≤ bestL 5 r := by
  by_cases e : (SR.slid r).score = 0
  · have e2 := score_next hr e
    have b1 : bestL 5 (SR.slid r).out = 0 := by rw [bestL, if_pos e2]
    have b2 : bestL 5 r = 0 := by rw [bestL, if_pos e]
    omega
  · have hl := tilesL_len (SR.slid r).out
    have b1 := bestL_more 4 _ (slid_in' hr) hl
    have b2 : bestL 5 r = max ((SR.slid r).score + bestL 4 (SR.slid r).out) ((SR.slid (turnR r)).score + bestL 4 (SR.slid (turnR r)).out) := by rw [bestL, if_neg e]
    rw [b1, b2]
    exact Int.le_max_left _ _
theorem symB_turn {r : Nat → Int} (hr : ∀ i, i < 4 → 0 ≤ r i ∧ r i ≤ 17) : symB (turnR r) = symB r := by
  unfold symB
  rw [turn_turn, slid_len hr, slid_len (turnR_in hr), n_turn]
  have hn : (SR.slid r).n = (SR.slid r).n := rfl
  generalize (SR.slid r).n = n at *
  congr 1
  rw [Bool.eq_iff_iff, decide_eq_true_eq, decide_eq_true_eq]
  constructor
  · intro h k hk
    have h1 := h (n - 1 - k) (by omega)
    rw [show n - 1 - (n - 1 - k) = k by omega] at h1
    exact h1.symm
  · intro h k hk
    have h1 := h (n - 1 - k) (by omega)
    rw [show n - 1 - (n - 1 - k) = k by omega] at h1
    exact h1.symm

end Go.Proofs.Ytegdnfmhhigjfaa

namespace Go.Proofs.Ytegdnfmhhigjfaa

/-- The first form that moves place 0 to P and place 1 to Q. -/
def likeP (P Q : Nat) : Nat := ((List.range 8).find? fun j => decide (mvP j 0 = P) && decide (mvP j 1 = Q)).getD 0
theorem bhP_like (k m : Nat) : bhP k m = likeP (mvP m (mvP k 0)) (mvP m (mvP k 1)) := rfl
theorem find_first {p : Nat → Bool} {n k : Nat} (hk : k < n) (h : p k = true) (hall : ∀ j, j < k → p j = false) : (List.range n).find? p = some k := by
  rw [List.find?_range_eq_some]
  exact ⟨h, List.mem_range.2 hk, fun j hj => by simp [hall j hj]⟩
theorem find_none {p : Nat → Bool} {n : Nat} (hall : ∀ j, j < n → p j = false) : (List.range n).find? p = none := by
  rw [List.find?_eq_none]
  intro x hx
  simp [hall x (List.mem_range.1 hx)]

def mkB : Nat → Int := fun p => if p = 0 then 1 else if p = 1 then 2 else 0
theorem number_bh : ∀ k, k < 8 → ∀ m, m < 8 → eqB (formB mkB (bhP k m)) (formB (formB mkB k) m) = true ∧ ∀ j, j < bhP k m → eqB (formB mkB j) (formB (formB mkB k) m) = false := by decide +kernel
theorem back_bk : ∀ k, k < 8 → eqB (formB (formB mkB k) (bkP k)) mkB = true ∧ ∀ j, j < bkP k → eqB (formB (formB mkB k) j) mkB = false := by decide +kernel
theorem bkP_first : ∀ k, k < 8 → bhP k (bkP k) = 0 ∧ ∀ j, j < bkP k → ¬ bhP k j = 0 := by decide +kernel

/-- A tile alone. -/
def oneB : Nat → Int := fun p => if p = 6 then 1 else 0
def sdS (k d : Nat) : Int := if 4 ≤ k ∧ (d + k) % 4 % 2 = 0 then 2 - (((d + k) % 4 : Nat) : Int) else (((d + k) % 4 : Nat) : Int)
def sdP (k d : Nat) : Nat := (sdS k d).toNat
theorem sd_first : ∀ k, k < 8 → ∀ d, d < 4 → sdP k d < 4 ∧ (sdP k d : Int) = sdS k d ∧ eqB (slB (formB oneB k) (sdP k d)) (formB (slB oneB d) k) = true ∧ ∀ e, e < sdP k d → eqB (slB (formB oneB k) e) (formB (slB oneB d) k) = false := by decide +kernel

end Go.Proofs.Ytegdnfmhhigjfaa

namespace Go.Proofs.Ytegdnfmhhigjfaa

theorem formB_in {b : Nat → Int} {k : Nat} (hb : In17 b 16) (hk : k < 8) : In17 (formB b k) 16 := fun i hi => hb _ (srcP_lt k hk i hi)
theorem formB_home {b : Nat → Int} {k : Nat} (hk : k < 8) : eqB (formB (formB b k) (bkP k)) b = true := by
  have h := formB_form (b := b) hk (bkP_lt k hk)
  rw [(bh_bk k hk).1] at h
  exact h
theorem smT_form (b : Nat → Int) {k : Nat} (hk : k < 8) : smT (formB b k) 16 = smT b 16 := by
  rcases k8 hk with rfl | rfl | rfl | rfl | rfl | rfl | rfl | rfl <;> simp [smT, formB, srcP, rotS, mirS] <;> omega
theorem mnB_form (b : Nat → Int) {k : Nat} (hk : k < 8) : mnB (formB b k) 16 = mnB b 16 := by
  rcases k8 hk with rfl | rfl | rfl | rfl | rfl | rfl | rfl | rfl <;> simp [mnB, formB, srcP, rotS, mirS] <;> omega

/-- One pair. -/
def pq (x y : Int) : Int := if x = y ∧ 1 ≤ x ∧ x ≤ 16 then 1 else 0
theorem pq_comm (x y : Int) : pq x y = pq y x := by
  unfold pq
  by_cases h : x = y
  · subst h; rfl
  · rw [if_neg (fun hh => h hh.1), if_neg (fun hh => h hh.1.symm)]
theorem pq_ord (b : Nat → Int) {i j : Nat} (_ : j < i) : pq (b i) (b j) = pq (b j) (b i) := pq_comm _ _
theorem prT_pq (r : Nat → Int) : prT r 3 = pq (r 0) (r 1) + pq (r 1) (r 2) + pq (r 2) (r 3) := by
  unfold pq
  show 0 + (if r 0 = r 1 ∧ 1 ≤ r 0 ∧ r 0 ≤ 16 then (1 : Int) else 0) + (if r 1 = r 2 ∧ 1 ≤ r 1 ∧ r 1 ≤ 16 then (1 : Int) else 0) + (if r 2 = r 3 ∧ 1 ≤ r 2 ∧ r 2 ≤ 16 then (1 : Int) else 0) = _
  rw [Int.zero_add]
theorem prS_form (b : Nat → Int) {k : Nat} (hk : k < 8) : prS (formB b k) 4 = prS b 4 := by
  have u : ∀ c : Nat → Int, prS c 4 = pq (c 0) (c 1) + pq (c 1) (c 2) + pq (c 2) (c 3) + (pq (c 0) (c 4) + pq (c 4) (c 8) + pq (c 8) (c 12))
      + (pq (c 4) (c 5) + pq (c 5) (c 6) + pq (c 6) (c 7) + (pq (c 1) (c 5) + pq (c 5) (c 9) + pq (c 9) (c 13)))
      + (pq (c 8) (c 9) + pq (c 9) (c 10) + pq (c 10) (c 11) + (pq (c 2) (c 6) + pq (c 6) (c 10) + pq (c 10) (c 14)))
      + (pq (c 12) (c 13) + pq (c 13) (c 14) + pq (c 14) (c 15) + (pq (c 3) (c 7) + pq (c 7) (c 11) + pq (c 11) (c 15))) := by
    intro c
    show 0 + prT (lineOf c 0 0) 3 + prT (lineOf c 1 0) 3 + prT (lineOf c 0 1) 3 + prT (lineOf c 1 1) 3 + prT (lineOf c 0 2) 3 + prT (lineOf c 1 2) 3 + prT (lineOf c 0 3) 3 + prT (lineOf c 1 3) 3 = _
    simp only [prT_pq, lineOf, lineAt, Nat.reduceMul, Nat.reduceAdd]; omega
  rw [u, u]
  rcases k8 hk with rfl | rfl | rfl | rfl | rfl | rfl | rfl | rfl <;> simp [formB, srcP, rotS, mirS, pq_ord] <;> omega

/-- Which line of the board line i of its form f is, in the direction that form f makes of d. -/
def lpP (f d i : Nat) : Nat := lnI d (srcP f (lineAt (sdP f d) i 0))
theorem lpP_at : ∀ f, f < 8 → ∀ d, d < 4 → ∀ i, i < 4 → ∀ k, k < 4 → srcP f (lineAt (sdP f d) i k) = lineAt d (lpP f d i) k := by decide +kernel
theorem lpP_or : ∀ f, f < 8 → ∀ d, d < 4 → (∀ i, i < 4 → lpP f d i = i) ∨ (∀ i, i < 4 → lpP f d i = 3 - i) := by decide +kernel
theorem lpP_lt {f d i : Nat} (hf : f < 8) (hd : d < 4) (hi : i < 4) : lpP f d i < 4 := by
  rcases lpP_or f hf d hd with h | h <;> rw [h i hi] <;> omega
theorem sdP_lt {f d : Nat} (hf : f < 8) (hd : d < 4) : sdP f d < 4 := (sd_first f hf d hd).1
theorem slid_form (b : Nat → Int) {f d i : Nat} (hf : f < 8) (hd : d < 4) (hi : i < 4) : SR.slid (lineOf (formB b f) (sdP f d) i) = SR.slid (lineOf b d (lpP f d i)) :=
  SR.slid_congr fun k hk => by
    show b (srcP f (lineAt (sdP f d) i k)) = b (lineAt d (lpP f d i) k)
    rw [lpP_at f hf d hd i hi k hk]
theorem slB_form (b : Nat → Int) {f d : Nat} (hf : f < 8) (hd : d < 4) : eqB (formB (slB b d) f) (slB (formB b f) (sdP f d)) = true := by
  refine eqB_true.2 fun p hp => ?_
  have hs := sdP_lt hf hd
  have hi := @lnI_lt (sdP f d) p hp
  have hk : lnK (sdP f d) p < 4 := by rcases @lnK_lt (sdP f d) p with h | h <;> omega
  have hl := lpP_lt hf hd hi
  have e := lpP_at f hf d hd _ hi _ hk
  rw [at_lnIK hs hp] at e
  show (SR.slid (lineOf b d (lnI d (srcP f p)))).out (lnK d (srcP f p)) = (SR.slid (lineOf (formB b f) (sdP f d) (lnI (sdP f d) p))).out (lnK (sdP f d) p)
  rw [slid_form b hf hd hi, e, lnI_at hd hl hk, lnK_at hd hl hk]
theorem scTo_form (b : Nat → Int) {f d : Nat} (hf : f < 8) (hd : d < 4) : scTo (formB b f) (sdP f d) 4 = scTo b d 4 := by
  simp only [scTo]
  rw [slid_form b hf hd (by omega : 0 < 4), slid_form b hf hd (by omega : 1 < 4), slid_form b hf hd (by omega : 2 < 4), slid_form b hf hd (by omega : 3 < 4)]
  rcases lpP_or f hf d hd with h | h
  · rw [h 0 (by omega), h 1 (by omega), h 2 (by omega), h 3 (by omega)]
  · rw [h 0 (by omega), h 1 (by omega), h 2 (by omega), h 3 (by omega)]; simp only [Nat.sub_zero, Nat.reduceSub]; omega
theorem mgTo_form (b : Nat → Int) {f d : Nat} (hf : f < 8) (hd : d < 4) : mgTo (formB b f) (sdP f d) 4 = mgTo b d 4 := by
  simp only [mgTo]
  rw [slid_form b hf hd (by omega : 0 < 4), slid_form b hf hd (by omega : 1 < 4), slid_form b hf hd (by omega : 2 < 4), slid_form b hf hd (by omega : 3 < 4)]
  rcases lpP_or f hf d hd with h | h
  · rw [h 0 (by omega), h 1 (by omega), h 2 (by omega), h 3 (by omega)]
  · rw [h 0 (by omega), h 1 (by omega), h 2 (by omega), h 3 (by omega)]; simp only [Nat.sub_zero, Nat.reduceSub]; omega

end Go.Proofs.Ytegdnfmhhigjfaa

namespace Go.Proofs.Ytegdnfmhhigjfaa

theorem smT_congr {b c : Nat → Int} : ∀ {n : Nat}, (∀ p, p < n → b p = c p) → smT b n = smT c n
  | 0, _ => rfl
  | n + 1, h => by rw [smT, smT, smT_congr fun p hp => h p (by omega), h n (by omega)]
theorem smT_lines (b : Nat → Int) {d : Nat} (hd : d < 4) : smT b 16 = smT (lineOf b d 0) 4 + smT (lineOf b d 1) 4 + smT (lineOf b d 2) 4 + smT (lineOf b d 3) 4 := by
  rcases d4 hd with rfl | rfl | rfl | rfl <;> simp [smT, lineOf, lineAt] <;> omega
theorem wth_succ {t : Int} (h : 1 ≤ t) : wth (t + 1) = 2 * wth t := by
  unfold wth wrt
  rw [if_neg (by omega), if_neg (by omega), show (t + 1).toNat = t.toNat + 1 by omega, Nat.pow_succ]
  omega
theorem smT_set {f : Nat → Int} {i : Nat} (hi : i < 4) (x : Int) : smT (fun j => if j = i then x else f j) 4 = smT f 4 - wth (f i) + wth x := by
  rcases d4 hi with rfl | rfl | rfl | rfl <;> simp [smT] <;> omega
theorem SR.sum_upto {r : Nat → Int} (hr : ∀ i, i < 4 → 0 ≤ r i ∧ r i ≤ 17) : ∀ n, n ≤ 4 → smT (SR.upto r n).out 4 = smT r n
  | 0, _ => by simp [SR.upto, SR.zero, smT, wth]
  | n + 1, hn => by
    have ih := SR.sum_upto hr n (by omega)
    have ok := SR.ok_upto r hr n (by omega)
    have hb := hr n (by omega)
    have hon := ok.n
    show smT ((SR.upto r n).sstep (r n)).out 4 = smT r n + wth (r n)
    unfold SR.sstep
    split
    · rename_i h
      rw [h, ih]; simp [wth]
    · rename_i h
      unfold SR.step
      split
      · rename_i hm
        obtain ⟨a, b, c, d⟩ := SR.mer_true hm
        simp only [SR.merged]
        rw [smT_set (by omega), ih, b, wth_succ (by omega)]; omega
      · simp only [SR.pushed]
        rw [smT_set (by omega), ih, ok.zero _ (Nat.le_refl _)]; simp [wth]
theorem slid_sum {r : Nat → Int} (hr : ∀ i, i < 4 → 0 ≤ r i ∧ r i ≤ 17) : smT (SR.slid r).out 4 = smT r 4 := SR.sum_upto hr 4 (by omega)
/-- A slide keeps the sum of all worths. -/
theorem smT_slB {b : Nat → Int} {d : Nat} (hb : In17 b 16) (hd : d < 4) : smT (slB b d) 16 = smT b 16 := by
  have e : ∀ i, i < 4 → smT (lineOf (slB b d) d i) 4 = smT (lineOf b d i) 4 := fun i hi => by
    rw [← slid_sum (lineOf_in hb hi)]
    exact smT_congr fun k hk => lineOf_slB hd hi hk
  rw [smT_lines _ hd, smT_lines b hd, e 0 (by omega), e 1 (by omega), e 2 (by omega), e 3 (by omega)]

theorem mg_n {r : Nat → Int} (hr : ∀ i, i < 4 → 0 ≤ r i ∧ r i ≤ 17) : cntM (SR.slid r).mg 4 = nzR r - ((SR.slid r).n : Int) := by
  rw [slid_mg hr, ← nzR_tiles (SR.slid r).out, slid_len hr]
theorem nzR_turn (r : Nat → Int) : nzR (turnR r) = nzR r := by simp [nzR, turnR]; omega
theorem mg_turn {r : Nat → Int} (hr : ∀ i, i < 4 → 0 ≤ r i ∧ r i ≤ 17) : cntM (SR.slid (turnR r)).mg 4 = cntM (SR.slid r).mg 4 := by
  rw [mg_n (turnR_in hr), mg_n hr, n_turn, nzR_turn]
theorem line_back (b : Nat → Int) {d i : Nat} (hd : d < 4) : ∀ k, k < 4 → lineOf b ((d + 2) % 4) i k = turnR (lineOf b d i) k := by
  intro k hk
  rcases d4 hd with rfl | rfl | rfl | rfl <;> rcases d4 hk with rfl | rfl | rfl | rfl <;> rfl
/-- As many mergers in the opposite direction. -/
theorem mgTo_back {b : Nat → Int} {d : Nat} (hb : In17 b 16) (hd : d < 4) : mgTo b ((d + 2) % 4) 4 = mgTo b d 4 := by
  have e : ∀ i, i < 4 → cntM (SR.slid (lineOf b ((d + 2) % 4) i)).mg 4 = cntM (SR.slid (lineOf b d i)).mg 4 := fun i hi => by
    rw [SR.slid_congr (line_back b hd), mg_turn (lineOf_in hb hi)]
  simp only [mgTo]
  rw [e 0 (by omega), e 1 (by omega), e 2 (by omega), e 3 (by omega)]

theorem sc_mg {r : Nat → Int} (hr : ∀ i, i < 4 → 0 ≤ r i ∧ r i ≤ 17) : (SR.slid r).score = 0 ↔ cntM (SR.slid r).mg 4 = 0 := by
  rw [slid_score_zero hr, mg_n hr, ← nzR_tiles]; omega
theorem scTo_mg {b : Nat → Int} {d : Nat} (hb : In17 b 16) : scTo b d 4 = 0 ↔ mgTo b d 4 = 0 := by
  have s0 := sc_mg (lineOf_in (d := d) hb (by omega : 0 < 4)); have s1 := sc_mg (lineOf_in (d := d) hb (by omega : 1 < 4))
  have s2 := sc_mg (lineOf_in (d := d) hb (by omega : 2 < 4)); have s3 := sc_mg (lineOf_in (d := d) hb (by omega : 3 < 4))
  have l0 := (SR.slid_ok (lineOf_in (d := d) hb (by omega : 0 < 4))).lo; have l1 := (SR.slid_ok (lineOf_in (d := d) hb (by omega : 1 < 4))).lo
  have l2 := (SR.slid_ok (lineOf_in (d := d) hb (by omega : 2 < 4))).lo; have l3 := (SR.slid_ok (lineOf_in (d := d) hb (by omega : 3 < 4))).lo
  have c0 := cntM_le (SR.slid (lineOf b d 0)).mg 4; have c1 := cntM_le (SR.slid (lineOf b d 1)).mg 4
  have c2 := cntM_le (SR.slid (lineOf b d 2)).mg 4; have c3 := cntM_le (SR.slid (lineOf b d 3)).mg 4
  simp only [scTo, mgTo]
  omega
theorem slid_again {r : Nat → Int} (hr : ∀ i, i < 4 → 0 ≤ r i ∧ r i ≤ 17) (h : cntM (SR.slid r).mg 4 = 0) : SR.slid (SR.slid r).out = SR.slid r := by
  have hn : (SR.slid r).n = (tilesL r).length := (slid_score_zero hr).1 ((sc_mg hr).2 h)
  have hf := (SR.tiles_full (tilesL_pos r hr) _ (Nat.le_refl _) (by rw [← SR.slid_tiles]; exact hn)).1
  rw [← SR.slid_tiles] at hf
  have e : tilesL (SR.slid r).out = tilesL r := by
    rw [slid_tilesL hr, hn]
    apply List.ext_getElem
    · simp
    · intro i h1 h2
      simp [hf i h2, h2]
  have e2 := SR.foldl_tiles (SR.slid r).out
  rw [e, SR.foldl_tiles] at e2
  exact e2.symm
theorem slid_line {b : Nat → Int} {d i : Nat} (hd : d < 4) (hi : i < 4) : SR.slid (lineOf (slB b d) d i) = SR.slid (SR.slid (lineOf b d i)).out := SR.slid_congr fun _ hk => lineOf_slB hd hi hk
/-- A second slide moves only what has merged. -/
theorem slB_again {b : Nat → Int} {d : Nat} (hb : In17 b 16) (hd : d < 4) (h : mgTo b d 4 = 0) : eqB (slB (slB b d) d) (slB b d) = true ∧ scTo (slB b d) d 4 = 0 := by
  have hs := (scTo_mg hb).2 h
  have m : ∀ i, i < 4 → cntM (SR.slid (lineOf b d i)).mg 4 = 0 := fun i hi => by
    have c0 := cntM_le (SR.slid (lineOf b d 0)).mg 4; have c1 := cntM_le (SR.slid (lineOf b d 1)).mg 4
    have c2 := cntM_le (SR.slid (lineOf b d 2)).mg 4; have c3 := cntM_le (SR.slid (lineOf b d 3)).mg 4
    simp only [mgTo] at h
    rcases d4 hi with rfl | rfl | rfl | rfl <;> omega
  have e : ∀ i, i < 4 → SR.slid (lineOf (slB b d) d i) = SR.slid (lineOf b d i) := fun i hi => by rw [slid_line hd hi, slid_again (lineOf_in hb hi) (m i hi)]
  refine ⟨eqB_true.2 fun p hp => ?_, ?_⟩
  · show (SR.slid (lineOf (slB b d) d (lnI d p))).out (lnK d p) = (SR.slid (lineOf b d (lnI d p))).out (lnK d p)
    rw [e _ (lnI_lt hp)]
  · simp only [scTo] at hs ⊢
    rw [e 0 (by omega), e 1 (by omega), e 2 (by omega), e 3 (by omega)]
    exact hs
theorem em_slide {b : Nat → Int} {d : Nat} (hb : In17 b 16) (hd : d < 4) : ((emL (slB b d) 16).length : Int) - ((emL b 16).length : Int) = mgTo b d 4 := by
  rw [mgTo_many hb hd, mnB_emL, mnB_emL]; omega

/-- Which boards no slide changes. -/
theorem slB_fix {b : Nat → Int} {d : Nat} (hd : d < 4) : eqB (slB b d) b = true ↔ ∀ i, i < 4 → fixP (lineOf b d i) := by
  rw [eqB_true]
  constructor
  · intro h i hi j hj
    have := h _ (lineAt_lt (d := d) hi hj)
    rw [← lineOf_slB hd hi hj]
    exact this
  · intro h p hp
    have h1 := h _ (@lnI_lt d p hp) (lnK d p) (by rcases @lnK_lt d p with h | h <;> omega)
    have h2 := at_lnIK hd hp
    show (SR.slid (lineOf b d (lnI d p))).out (lnK d p) = b p
    rw [h1]
    show b (lineAt d (lnI d p) (lnK d p)) = b p
    rw [h2]
theorem fix_flP {r : Nat → Int} (hr : ∀ i, i < 4 → 0 ≤ r i ∧ r i ≤ 17) (h : fixP r) : flP r := fun k hk hz => by
  have h1 := slid_flP hr k hk (by rw [h k (by omega)]; exact hz)
  rw [h (k + 1) (by omega)] at h1
  exact h1
theorem tilesL_all {r : Nat → Int} (h : ∀ j, j < 4 → r j ≠ 0) : tilesL r = [r 0, r 1, r 2, r 3] := by
  simp [tilesL, h 0, h 1, h 2, h 3]
theorem pq_zero (x y : Int) (hx : x ≤ 17) (h : pq x y = 0) (h1 : 1 ≤ x) : x = y → 17 ≤ y := by
  intro e
  subst e
  unfold pq at h
  by_cases h2 : x ≤ 16
  · rw [if_pos ⟨rfl, h1, h2⟩] at h; omega
  · omega
theorem pq_le (x y : Int) : 0 ≤ pq x y := by unfold pq; split <;> omega
theorem pq_no {x y : Int} (h : x = y → 17 ≤ y) : pq x y = 0 := by
  unfold pq
  rw [if_neg]
  rintro ⟨e, _, h3⟩
  have := h e; omega
theorem prT_noAdj {r : Nat → Int} (hr : ∀ i, i < 4 → 0 ≤ r i ∧ r i ≤ 17) (h : ∀ j, j < 4 → r j ≠ 0) : prT r 3 = 0 ↔ noAdj (tilesL r) (tilesL r).length := by
  rw [prT_pq, tilesL_all h]
  have r0 := hr 0 (by omega); have r1 := hr 1 (by omega); have r2 := hr 2 (by omega); have r3 := hr 3 (by omega)
  have z0 := h 0 (by omega); have z1 := h 1 (by omega); have z2 := h 2 (by omega)
  have p0 := pq_le (r 0) (r 1); have p1 := pq_le (r 1) (r 2); have p2 := pq_le (r 2) (r 3)
  constructor
  · intro hp j hj
    simp only [List.length_cons, List.length_nil] at hj
    rcases (by omega : j = 0 ∨ j = 1 ∨ j = 2) with rfl | rfl | rfl
    · exact pq_zero (r 0) (r 1) (by omega) (by omega) (by omega)
    · exact pq_zero (r 1) (r 2) (by omega) (by omega) (by omega)
    · exact pq_zero (r 2) (r 3) (by omega) (by omega) (by omega)
  · intro hn
    have n0 := pq_no (hn 0 (by simp)); have n1 := pq_no (hn 1 (by simp)); have n2 := pq_no (hn 2 (by simp))
    have e0 : pq (r 0) (r 1) = 0 := n0
    have e1 : pq (r 1) (r 2) = 0 := n1
    have e2 : pq (r 2) (r 3) = 0 := n2
    omega
theorem fix_full {r : Nat → Int} (hr : ∀ i, i < 4 → 0 ≤ r i ∧ r i ≤ 17) (h : ∀ j, j < 4 → r j ≠ 0) : fixP r ↔ prT r 3 = 0 := by
  rw [prT_noAdj hr h]
  have hT := tilesL_all h
  constructor
  · intro hf
    have e : tilesL (SR.slid r).out = tilesL r := by
      simp only [tilesL, hf 0 (by omega), hf 1 (by omega), hf 2 (by omega), hf 3 (by omega)]
    have hn := slid_len hr
    rw [e] at hn
    refine (SR.full_iff (tilesL_pos r hr) _ (Nat.le_refl _)).1 ?_
    rw [← SR.slid_tiles]; exact hn.symm
  · intro hn j hj
    have h1 := (SR.full_iff (tilesL_pos r hr) _ (Nat.le_refl _)).2 hn
    have h2 := (SR.tiles_full (tilesL_pos r hr) _ (Nat.le_refl _) h1).1 j (by rw [hT]; exact hj)
    rw [← SR.slid_tiles] at h2
    rw [h2, hT]
    rcases d4 hj with rfl | rfl | rfl | rfl <;> rfl
theorem prT_congr {r q : Nat → Int} (h : ∀ i, i < 4 → r i = q i) : prT r 3 = prT q 3 := by
  rw [prT_pq, prT_pq, h 0 (by omega), h 1 (by omega), h 2 (by omega), h 3 (by omega)]
theorem prT_turn (r : Nat → Int) : prT (turnR r) 3 = prT r 3 := by
  rw [prT_pq, prT_pq]
  show pq (r 3) (r 2) + pq (r 2) (r 1) + pq (r 1) (r 0) = _
  rw [pq_comm (r 3), pq_comm (r 2) (r 1), pq_comm (r 1) (r 0)]; omega
theorem prT_lines (b : Nat → Int) (h : prS b 4 = 0) : ∀ d, d < 4 → ∀ i, i < 4 → prT (lineOf b d i) 3 = 0 := by
  have g : ∀ d, d < 2 → ∀ i, i < 4 → prT (lineOf b d i) 3 = 0 := fun d hd i hi => by
    have a0 := prT_le (lineOf b 0 0) 3; have a1 := prT_le (lineOf b 0 1) 3; have a2 := prT_le (lineOf b 0 2) 3; have a3 := prT_le (lineOf b 0 3) 3
    have b0 := prT_le (lineOf b 1 0) 3; have b1 := prT_le (lineOf b 1 1) 3; have b2 := prT_le (lineOf b 1 2) 3; have b3 := prT_le (lineOf b 1 3) 3
    simp only [prS] at h
    rcases (by omega : d = 0 ∨ d = 1) with rfl | rfl <;> rcases d4 hi with rfl | rfl | rfl | rfl <;> omega
  intro d hd i hi
  rcases (by omega : d < 2 ∨ d = (0 + 2) % 4 ∨ d = (1 + 2) % 4) with h2 | rfl | rfl
  · exact g d h2 i hi
  · rw [prT_congr (line_back b (by omega)), prT_turn, g 0 (by omega) i hi]
  · rw [prT_congr (line_back b (by omega)), prT_turn, g 1 (by omega) i hi]
theorem emL_full {b : Nat → Int} : (emL b 16).length = 16 ↔ ∀ p, p < 16 → b p = 0 := by
  unfold emL
  constructor
  · intro h p hp
    have h2 := (List.length_filter_eq_length_iff (l := List.range 16) (p := fun p => decide (b p = 0))).1 (by rw [h]; simp)
    exact of_decide_eq_true (h2 p (List.mem_range.2 hp))
  · intro h
    rw [List.filter_eq_self.2 fun p hp => decide_eq_true (h p (List.mem_range.1 hp))]; simp
theorem emL_none {b : Nat → Int} : (emL b 16).length = 0 ↔ ∀ p, p < 16 → b p ≠ 0 := by
  unfold emL
  rw [List.length_eq_zero_iff, List.filter_eq_nil_iff]
  constructor
  · intro h p hp e
    exact h p (List.mem_range.2 hp) (decide_eq_true e)
  · intro h p hp e
    exact h p (List.mem_range.1 hp) (of_decide_eq_true e)
theorem slid_nought : ∀ j, j < 4 → (SR.slid (fun _ => 0)).out j = 0 := by
  intro j _
  simp [SR.slid, SR.upto, SR.sstep, SR.zero]
theorem over_iff {b : Nat → Int} (hb : In17 b 16) : (∀ d, d < 4 → eqB (slB b d) b = true) ↔ ((emL b 16).length = 16 ∨ ((emL b 16).length = 0 ∧ prS b 4 = 0)) := by
  constructor
  · intro h
    have F : ∀ d, d < 4 → ∀ i, i < 4 → fixP (lineOf b d i) := fun d hd => (slB_fix hd).1 (h d hd)
    have f : ∀ d, d < 4 → ∀ i, i < 4 → ∀ k, k < 3 → b (lineAt d i k) = 0 → b (lineAt d i (k + 1)) = 0 := fun d hd i hi k hk => fix_flP (lineOf_in hb hi) (F d hd i hi) k hk
    have g : ∀ i, i < 4 → ∀ k, k < 3 → (b (4 * i + k) = 0 ↔ b (4 * i + (k + 1)) = 0) := fun i hi k hk => ⟨f 0 (by omega) i hi k hk, fun hz => by
      have h1 := f 2 (by omega) i hi (2 - k) (by omega)
      simp only [lineAt] at h1
      rw [show 3 - (2 - k) = k + 1 by omega, show 3 - (2 - k + 1) = k by omega] at h1
      exact h1 hz⟩
    have v : ∀ i, i < 4 → ∀ k, k < 3 → (b (4 * k + i) = 0 ↔ b (4 * (k + 1) + i) = 0) := fun i hi k hk => ⟨f 1 (by omega) i hi k hk, fun hz => by
      have h1 := f 3 (by omega) i hi (2 - k) (by omega)
      simp only [lineAt] at h1
      rw [show 3 - (2 - k) = k + 1 by omega, show 3 - (2 - k + 1) = k by omega] at h1
      exact h1 hz⟩
    have z : ∀ i, i < 4 → ∀ k, k < 4 → (b (4 * i + k) = 0 ↔ b 0 = 0) := fun i hi k hk => by
      have c : ∀ i, i < 4 → (b (4 * i + 0) = 0 ↔ b 0 = 0) := fun i hi => by
        have v0 := v 0 (by omega) 0 (by omega); have v1 := v 0 (by omega) 1 (by omega); have v2 := v 0 (by omega) 2 (by omega)
        rcases d4 hi with rfl | rfl | rfl | rfl
        · exact Iff.rfl
        · exact v0.symm
        · exact v1.symm.trans v0.symm
        · exact v2.symm.trans (v1.symm.trans v0.symm)
      have g0 := g i hi 0 (by omega); have g1 := g i hi 1 (by omega); have g2 := g i hi 2 (by omega)
      refine Iff.trans ?_ (c i hi)
      rcases d4 hk with rfl | rfl | rfl | rfl
      · exact Iff.rfl
      · exact g0.symm
      · exact g1.symm.trans g0.symm
      · exact g2.symm.trans (g1.symm.trans g0.symm)
    have zp : ∀ p, p < 16 → (b p = 0 ↔ b 0 = 0) := fun p hp => by
      have := z (p / 4) (by omega) (p % 4) (by omega)
      rwa [show 4 * (p / 4) + p % 4 = p by omega] at this
    by_cases e : b 0 = 0
    · exact Or.inl (emL_full.2 fun p hp => (zp p hp).2 e)
    · have nz : ∀ p, p < 16 → b p ≠ 0 := fun p hp h0 => e ((zp p hp).1 h0)
      refine Or.inr ⟨emL_none.2 nz, ?_⟩
      have t : ∀ d, d < 4 → ∀ i, i < 4 → prT (lineOf b d i) 3 = 0 := fun d hd i hi => (fix_full (lineOf_in hb hi) fun j hj => nz _ (lineAt_lt hi hj)).1 (F d hd i hi)
      simp only [prS]
      rw [t 0 (by omega) 0 (by omega), t 0 (by omega) 1 (by omega), t 0 (by omega) 2 (by omega), t 0 (by omega) 3 (by omega), t 1 (by omega) 0 (by omega), t 1 (by omega) 1 (by omega), t 1 (by omega) 2 (by omega), t 1 (by omega) 3 (by omega)]
      rfl
  · rintro (h | ⟨h, hp⟩) d hd
    · have hz := emL_full.1 h
      refine (slB_fix hd).2 fun i hi j hj => ?_
      have e : ∀ k, k < 4 → lineOf b d i k = 0 := fun k hk => hz _ (lineAt_lt hi hk)
      rw [SR.slid_congr (q := fun _ => 0) e, slid_nought j hj, e j hj]
    · have hz := emL_none.1 h
      refine (slB_fix hd).2 fun i hi => ?_
      exact (fix_full (lineOf_in hb hi) fun j hj => hz _ (lineAt_lt hi hj)).2 (prT_lines b hp d hd i hi)

end Go.Proofs.Ytegdnfmhhigjfaa

namespace Go.Proofs.Ytegdnfmhhigjfaa
open Go.RowKit

theorem has_fr {a w3 : World} {B n : Nat} {c : Nat → Value} {ob : Obj} (h : Has a B n c) (ho : Only a.heap.size (a.alloc ob) w3) : Has w3 B n c := (h.alloc ob).only ho (by have := h.2.2; omega)
theorem below_fr {W a w3 : World} {ob : Obj} (h : Below W.heap.size W a) (ho : Only a.heap.size (a.alloc ob) w3) : Below W.heap.size W w3 := below_only (below_new h ob) ho h.size
theorem load_BoardF {ops : Array Oper} {rest : List Oper} {op : Oper} {a : Act} {w : World} {Q : Exit → Act → World → Prop} (hgd : op.guard = none) (x : Operand) (ho : op.op = .load 27 x)
    (b : Nat) (f : Nat → Int) (hx : a.eval x = .pointer (some ⟨b, 0, none⟩)) (hH : Has w b 16 (fun o => .int .i64 (f o)))
    (h : wpList Try.prog ops Q rest (a.put op.dst (.agg #[.int .i64 (f 0), .int .i64 (f 1), .int .i64 (f 2), .int .i64 (f 3), .int .i64 (f 4), .int .i64 (f 5), .int .i64 (f 6), .int .i64 (f 7), .int .i64 (f 8), .int .i64 (f 9), .int .i64 (f 10), .int .i64 (f 11), .int .i64 (f 12), .int .i64 (f 13), .int .i64 (f 14), .int .i64 (f 15)])) w) : wpList Try.prog ops Q (op :: rest) a w :=
  load_Board hgd x ho b 0 hx hH (by omega) h
theorem wpList_wanted {P : Program} {ops : Array Oper} {rest : List Oper} {o : Oper} {a : Act} {w : World} {Q : Exit → Act → World → Prop} (hw : Region.wanted o (yielded ops a.tmps) = true)
    (h : ∀ K : Act → World → Prop, (∀ a w, wpList P ops Q rest a w → K a w) → o.wp P a w K Q) : wpList P ops Q (o :: rest) a w :=
  wpList_step fun K hK => by rw [if_pos hw]; exact h K hK
theorem load_BoardG {ops : Array Oper} {rest : List Oper} {op : Oper} {a : Act} {w : World} {Q : Exit → Act → World → Prop} (x : Operand) (ho : op.op = .load 27 x)
    (b : Nat) (f : Nat → Int) (hx : a.eval x = .pointer (some ⟨b, 0, none⟩)) (hH : Has w b 16 (fun o => .int .i64 (f o))) (hw : Region.wanted op (yielded ops a.tmps) = true)
    (h : wpList Try.prog ops Q rest (a.put op.dst (.agg #[.int .i64 (f 0), .int .i64 (f 1), .int .i64 (f 2), .int .i64 (f 3), .int .i64 (f 4), .int .i64 (f 5), .int .i64 (f 6), .int .i64 (f 7), .int .i64 (f 8), .int .i64 (f 9), .int .i64 (f 10), .int .i64 (f 11), .int .i64 (f 12), .int .i64 (f 13), .int .i64 (f 14), .int .i64 (f 15)])) w) : wpList Try.prog ops Q (op :: rest) a w :=
  wpList_wanted hw fun _ hK => wp_load_mid 27 x ho b 0 hx [.int .i64 (f 0), .int .i64 (f 1), .int .i64 (f 2), .int .i64 (f 3), .int .i64 (f 4), .int .i64 (f 5), .int .i64 (f 6), .int .i64 (f 7), .int .i64 (f 8), .int .i64 (f 9), .int .i64 (f 10), .int .i64 (f 11), .int .i64 (f 12), .int .i64 (f 13), .int .i64 (f 14), .int .i64 (f 15)] _ (hH.range 16 (by omega)) Try.underlying27 rfl (by kernel_rfl) (hK _ _ h)
theorem neq_B {a b : Nat → Int} (h : eqB a b = true) (w : World) : (binOp .neq 27 (.agg #[.int .i64 (a 0), .int .i64 (a 1), .int .i64 (a 2), .int .i64 (a 3), .int .i64 (a 4), .int .i64 (a 5), .int .i64 (a 6), .int .i64 (a 7), .int .i64 (a 8), .int .i64 (a 9), .int .i64 (a 10), .int .i64 (a 11), .int .i64 (a 12), .int .i64 (a 13), .int .i64 (a 14), .int .i64 (a 15)]) (.agg #[.int .i64 (b 0), .int .i64 (b 1), .int .i64 (b 2), .int .i64 (b 3), .int .i64 (b 4), .int .i64 (b 5), .int .i64 (b 6), .int .i64 (b 7), .int .i64 (b 8), .int .i64 (b 9), .int .i64 (b 10), .int .i64 (b 11), .int .i64 (b 12), .int .i64 (b 13), .int .i64 (b 14), .int .i64 (b 15)])).run Try.prog w = .ok (.bool false) w := by
  rw [run_neq_Board, h]; rfl

end Go.Proofs.Ytegdnfmhhigjfaa

namespace Go.Proofs.Ytegdnfmhhigjfaa
theorem form_in {k : Nat} (h : k < 8) : inB (k : Int) 0 7 = true := by simp [inB]; omega
theorem dir_in {k : Nat} (h : k < 4) : inB (k : Int) 0 3 = true := by simp [inB]; omega
theorem bd_in17 {b : Nat → Int} (h : In17 b 16) : bdB b = true := by
  have g : ∀ i, i < 16 → inB (b i) 0 17 = true := fun i hi => by have := h i hi; simp [inB, this]
  simp [bdB, rowB, g]
theorem bdB_congr {a b : Nat → Int} (h : eqB a b = true) : bdB a = bdB b := by
  have h := eqB_true.1 h
  simp only [bdB, h 0 (by omega), h 1 (by omega), h 2 (by omega), h 3 (by omega), h 4 (by omega), h 5 (by omega), h 6 (by omega), h 7 (by omega), h 8 (by omega), h 9 (by omega), h 10 (by omega), h 11 (by omega), h 12 (by omega), h 13 (by omega), h 14 (by omega), h 15 (by omega)]
end Go.Proofs.Ytegdnfmhhigjfaa

namespace Go.Proofs.Ytegdnfmhhigjfaa

theorem ovB_iff (b : Nat → Int) : (∀ d, d < 4 → eqB (slB b d) b = true) ↔ ovB b = true := by
  unfold ovB mvL
  rw [List.isEmpty_iff, List.filter_eq_nil_iff]
  constructor
  · intro h d hd
    rw [h d (List.mem_range.1 hd)]; simp
  · intro h d hd
    have := h d (List.mem_range.2 hd)
    cases e : eqB (slB b d) b
    · rw [e] at this; exact absurd rfl this
    · rfl
theorem mvL_mem (b : Nat → Int) {d : Nat} (hd : d < 4) : (!eqB (slB b d) b) = decide (d ∈ mvL b 4) := by
  unfold mvL
  rw [Bool.eq_iff_iff, decide_eq_true_eq, List.mem_filter]
  exact ⟨fun h => ⟨List.mem_range.2 hd, h⟩, fun h => h.2⟩

end Go.Proofs.Ytegdnfmhhigjfaa
