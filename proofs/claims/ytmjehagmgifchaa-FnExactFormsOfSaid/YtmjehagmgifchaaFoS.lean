/-
  Contract: FormsOf, the reference's.
-/
import Derived.Test.YtmjehagmgifchaaFoI
import Derived.Test.YtmjehagmgifchaaAddB
import Derived.Test.YtmjehagmgifchaaForm4
import Derived.Test.YtmjehagmgifchaaBoard3
namespace Go.Proofs.Ytmjehagmgifchaa
open Go.RowKit

theorem foL_lek (b : Nat → Int) (k : Nat) : (foL b k).length ≤ k := by
  rw [foL, foldO_len ordBd (formB b) k]
  refine Nat.le_trans (List.length_filter_le _ _) ?_
  simp

set_option maxHeartbeats 8000000 in
set_option maxRecDepth 100000 in
theorem specFormsOf_own (b : Nat → Int) (w : World) : Calls Try.prog 24 #[.agg #[.int .i64 (b 0), .int .i64 (b 1), .int .i64 (b 2), .int .i64 (b 3), .int .i64 (b 4), .int .i64 (b 5), .int .i64 (b 6), .int .i64 (b 7), .int .i64 (b 8), .int .i64 (b 9), .int .i64 (b 10), .int .i64 (b 11), .int .i64 (b 12), .int .i64 (b 13), .int .i64 (b 14), .int .i64 (b 15)]] w fun e w' => ∃ A cap, e = .returned (.tuple #[.slice A (foO b).length cap, .bool (bdB b)]) ∧ Sl w' w.heap.size A ((foO b).length * 16) (bsC (foO b)) ∧ Below w.heap.size w w' := by
  cases hb : bdB b
  · have e0 : foO b = [] := by simp [foO, hb]
    rw [e0]
    clear e0
    go_enter Try.func24, Try.ntmps24
    go_upto_region 1 with (fail)
    generalize hW : w.alloc _ = w1
    have hB : Below w.heap.size w w1 := by (rw [← hW]; exact (by repeat (first | (with_reducible exact Below.refl _ _) | (with_reducible assumption) | (with_reducible refine below_go ?_ (by with_reducible assumption)) | (with_reducible refine below_new ?_ _) | ((with_reducible refine below_put ?_ ?_ _); rotate_left; (dsimp only; omega)) | (with_reducible refine Below.drew ?_) | (with_reducible refine below_dn ?_ _))))
    have hsz : Hid (w1.heap.size = w.heap.size + 1) := hide (by rw [← hW]; simp)
    have i0 : Has w1 (w.heap.size) 16 (fun o => .int .i64 (b o)) := by (rw [← hW]; repeat (first | (refine Has.new ?_ rfl; simp; done) | refine Has.alloc ?_ _))
    have ci0 := i0.1; have fi0 := i0.2.1; have zi0 := i0.2.2
    clear hW
    go_upto_region 2 with (fail)
    generalize hW : w1.alloc _ = w3
    have hB' : Below w.heap.size w w3 := by (rw [← hW]; exact (by repeat (first | (with_reducible exact Below.refl _ _) | (with_reducible assumption) | (with_reducible refine below_go ?_ (by with_reducible assumption)) | (with_reducible refine below_new ?_ _) | ((with_reducible refine below_put ?_ ?_ _); rotate_left; (dsimp only; omega)) | (with_reducible refine Below.drew ?_) | (with_reducible refine below_dn ?_ _))))
    have i0' : Has w3 w.heap.size 16 (fun o => .int .i64 (b o)) := by (rw [← hW]; exact i0.alloc _)
    clear hB i0 ci0 fi0 zi0 hW hsz
    have hB := hB'; have i0 := i0'
    clear hB' i0'
    have ci0 := i0.1; have fi0 := i0.2.1; have zi0 := i0.2.2
    go_wp2_with (first | (go_at_call 87; (with_reducible refine (l2Board_any _ _).mono ?_); rintro e w2 ⟨rfl, hb2⟩; have hB' : Below w.heap.size w w2 := below_go (by repeat (first | (with_reducible exact Below.refl _ _) | (with_reducible assumption) | (with_reducible refine below_go ?_ (by with_reducible assumption)) | (with_reducible refine below_new ?_ _) | ((with_reducible refine below_put ?_ ?_ _); rotate_left; (dsimp only; omega)) | (with_reducible refine Below.drew ?_) | (with_reducible refine below_dn ?_ _))) hb2; have i0' : Has w2 (w.heap.size) 16 _ := Has.call (by repeat (first | (with_reducible assumption) | (with_reducible apply Has.set) | ((with_reducible apply Has.other); (case hne => (dsimp only; omega))) | (with_reducible apply Has.alloc) | (with_reducible apply Has.drew) | (with_reducible apply Has.drewN))) hb2; clear hB hb2; have hB := hB'; clear hB'; (try clear fi0); (try clear zi0); (try clear ci0); clear i0; have i0 := i0'; clear i0'; have ci0 := i0.1; have fi0 := i0.2.1; have zi0 := i0.2.2) | (refine load_Board rfl _ rfl _ _ rfl (by repeat (first | (with_reducible assumption) | (with_reducible apply Has.set) | ((with_reducible apply Has.other); (case hne => (dsimp only; omega))) | (with_reducible apply Has.alloc) | (with_reducible apply Has.drew) | (with_reducible apply Has.drewN))) (by omega) ?_))
    go_ret2
    exact ⟨_, _, rfl, sl_zero _ _ _ _, (by repeat (first | (with_reducible exact Below.refl _ _) | (with_reducible assumption) | (with_reducible refine below_go ?_ (by with_reducible assumption)) | (with_reducible refine below_new ?_ _) | ((with_reducible refine below_put ?_ ?_ _); rotate_left; (dsimp only; omega)) | (with_reducible refine Below.drew ?_) | (with_reducible refine below_dn ?_ _)))⟩
  · have HB := hide (bdB_in hb)
    have e0 := hide (show foO b = foL b 8 from if_pos hb)
    rw [e0.out]
    go_enter Try.func24, Try.ntmps24
    go_upto_region 1 with (fail)
    generalize hW : w.alloc _ = w1
    have hB : Below w.heap.size w w1 := by (rw [← hW]; exact (by repeat (first | (with_reducible exact Below.refl _ _) | (with_reducible assumption) | (with_reducible refine below_go ?_ (by with_reducible assumption)) | (with_reducible refine below_new ?_ _) | ((with_reducible refine below_put ?_ ?_ _); rotate_left; (dsimp only; omega)) | (with_reducible refine Below.drew ?_) | (with_reducible refine below_dn ?_ _))))
    have hsz : Hid (w1.heap.size = w.heap.size + 1) := hide (by rw [← hW]; simp)
    have i0 : Has w1 (w.heap.size) 16 (fun o => .int .i64 (b o)) := by (rw [← hW]; repeat (first | (refine Has.new ?_ rfl; simp; done) | refine Has.alloc ?_ _))
    have ci0 := i0.1; have fi0 := i0.2.1; have zi0 := i0.2.2
    clear hW
    go_upto_region 2 with (fail)
    generalize hW : w1.alloc _ = w3
    have hB' : Below w.heap.size w w3 := by (rw [← hW]; exact (by repeat (first | (with_reducible exact Below.refl _ _) | (with_reducible assumption) | (with_reducible refine below_go ?_ (by with_reducible assumption)) | (with_reducible refine below_new ?_ _) | ((with_reducible refine below_put ?_ ?_ _); rotate_left; (dsimp only; omega)) | (with_reducible refine Below.drew ?_) | (with_reducible refine below_dn ?_ _))))
    have i0' : Has w3 w.heap.size 16 (fun o => .int .i64 (b o)) := by (rw [← hW]; exact i0.alloc _)
    have h4' : Has w3 w1.heap.size (0 * 16) (bsC []) := by
      rw [← hW]
      have h := (Has.new' (w := w1) (cs := #[]) (T := 25) (n := 0) rfl).congr (d := bsC []) (fun o ho => absurd ho (Nat.not_lt_zero o))
      simpa using h
    have hg2 : w.heap.size ≤ w1.heap.size := hB.size
    clear hB i0 ci0 fi0 zi0 hW hsz
    have hB := hB'; have i0 := i0'
    clear hB' i0'
    generalize w1.heap.size = E4 at *
    have ci0 := i0.1; have fi0 := i0.2.1; have zi0 := i0.2.2
    go_upto_region 4 with (first | (refine load_Board rfl _ rfl _ _ rfl (by repeat (first | (with_reducible assumption) | (with_reducible apply Has.set) | ((with_reducible apply Has.other); (case hne => (dsimp only; omega))) | (with_reducible apply Has.alloc) | (with_reducible apply Has.drew) | (with_reducible apply Has.drewN))) (by omega) ?_) | (go_at_call 87; (with_reducible refine (l2Board_any _ _).mono ?_); rintro e w2 ⟨rfl, hb2⟩; have h4 := h4'.below hb2 h4'.2.2; clear h4'; have hB' : Below w.heap.size w w2 := below_go (by repeat (first | (with_reducible exact Below.refl _ _) | (with_reducible assumption) | (with_reducible refine below_go ?_ (by with_reducible assumption)) | (with_reducible refine below_new ?_ _) | ((with_reducible refine below_put ?_ ?_ _); rotate_left; (dsimp only; omega)) | (with_reducible refine Below.drew ?_) | (with_reducible refine below_dn ?_ _))) hb2; have i0' : Has w2 (w.heap.size) 16 _ := Has.call (by repeat (first | (with_reducible assumption) | (with_reducible apply Has.set) | ((with_reducible apply Has.other); (case hne => (dsimp only; omega))) | (with_reducible apply Has.alloc) | (with_reducible apply Has.drew) | (with_reducible apply Has.drewN))) hb2; clear hB hb2; have hB := hB'; clear hB'; (try clear fi0); (try clear zi0); (try clear ci0); clear i0; have i0 := i0'; clear i0'; have ci0 := i0.1; have fi0 := i0.2.1; have zi0 := i0.2.2))
    go_wp2_with fail
    go_loopw [4, 5] (fun v i wr => ∃ (k g c : Nat), v = .slice (some ⟨g, 0, none⟩) (foL b k).length c ∧ k ≤ 8 ∧ i = .int .i64 k ∧ (foL b k).length ≤ c ∧ w.heap.size ≤ g ∧ Has wr g ((foL b k).length * 16) (bsC (foL b k)) ∧ Below w.heap.size w wr ∧ Has wr w.heap.size 16 (fun o => .int .i64 (b o))) (fun _ i _ => 8 - (intOf i).toNat)
    case atStart => exact ⟨0, _, _, rfl, by omega, rfl, Nat.le_refl _, hg2, h4, hB, i0⟩
    case round =>
      clear hB i0 h4 hg2
      obtain ⟨k, g, c, rfl, hk, rfl, hc, hg, h4, hB, i0⟩ := hrel
      have ci0 := i0.1; have fi0 := i0.2.1; have zi0 := i0.2.2
      by_cases h8 : k = 8
      · subst h8
        go_wp2
        go_ret2
        first
          | exact ⟨_, _, rfl, fun _ => ⟨g, rfl, hg, h4⟩, hB⟩
          | exact ⟨_, ⟨_, rfl⟩, fun _ => ⟨g, rfl, hg, h4⟩, hB⟩
      · have hlt : k < 8 := by omega
        have HL := hide (show foL b (k + 1) = adO ltB eqB (foL b k) (formB b k) from rfl)
        have hl : (foL b k).length ≤ 100 := Nat.le_trans (foL_lek b k) (by omega)
        generalize foL b k = L at *
        go_wp2_with (first | (refine load_Board rfl _ rfl _ _ rfl (by repeat (first | (with_reducible assumption) | (with_reducible apply Has.set) | ((with_reducible apply Has.other); (case hne => (dsimp only; omega))) | (with_reducible apply Has.alloc) | (with_reducible apply Has.drew) | (with_reducible apply Has.drewN))) (by omega) ?_) | (go_at_call 98; (with_reducible refine (l3Made_any _ _ hlt _).mono ?_); rintro e w2 ⟨rfl, hb2⟩; have h4' := h4.below hb2 h4.2.2; clear h4; have h4 := h4'; clear h4'; have hB' : Below w.heap.size w w2 := below_go (by repeat (first | (with_reducible exact Below.refl _ _) | (with_reducible assumption) | (with_reducible refine below_go ?_ (by with_reducible assumption)) | (with_reducible refine below_new ?_ _) | ((with_reducible refine below_put ?_ ?_ _); rotate_left; (dsimp only; omega)) | (with_reducible refine Below.drew ?_) | (with_reducible refine below_dn ?_ _))) hb2; have i0' : Has w2 (w.heap.size) 16 _ := Has.call (by repeat (first | (with_reducible assumption) | (with_reducible apply Has.set) | ((with_reducible apply Has.other); (case hne => (dsimp only; omega))) | (with_reducible apply Has.alloc) | (with_reducible apply Has.drew) | (with_reducible apply Has.drewN))) hb2; clear hB hb2; have hB := hB'; clear hB'; (try clear fi0); (try clear zi0); (try clear ci0); clear i0; have i0 := i0'; clear i0'; have ci0 := i0.1; have fi0 := i0.2.1; have zi0 := i0.2.2) | (go_at_call 93; (with_reducible refine (l3Add_any _ hl _ _ hc _ _ h4).mono ?_); rintro e w2 ⟨g', c', rfl, hc', h4', hg', hb2⟩; have hgn : w.heap.size ≤ g' := hg'.elim (fun e => by omega) (fun h => by omega); clear h4 hg'; have hB' : Below w.heap.size w w2 := below_go (by repeat (first | (with_reducible exact Below.refl _ _) | (with_reducible assumption) | (with_reducible refine below_go ?_ (by with_reducible assumption)) | (with_reducible refine below_new ?_ _) | ((with_reducible refine below_put ?_ ?_ _); rotate_left; (dsimp only; omega)) | (with_reducible refine Below.drew ?_) | (with_reducible refine below_dn ?_ _))) hb2; have i0' : Has w2 (w.heap.size) 16 _ := Has.call (by repeat (first | (with_reducible assumption) | (with_reducible apply Has.set) | ((with_reducible apply Has.other); (case hne => (dsimp only; omega))) | (with_reducible apply Has.alloc) | (with_reducible apply Has.drew) | (with_reducible apply Has.drewN))) hb2; clear hB hb2; have hB := hB'; clear hB'; (try clear fi0); (try clear zi0); (try clear ci0); clear i0; have i0 := i0'; clear i0'; have ci0 := i0.1; have fi0 := i0.2.1; have zi0 := i0.2.2))
        rw [← HL.out] at hc' h4'
        go_roundw
        case rel => exact ⟨k + 1, g', c', by rw [HL.out], by omega, by go_num, hc', hgn, h4', hB, i0⟩
        case measure => simp [intOf]; omega

end Go.Proofs.Ytmjehagmgifchaa
