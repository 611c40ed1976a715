/-
  Contracts: the numbers of a line, as the reference reads them.
-/
import Derived.Test.YtegdnfmhhigjfaaLine2
import Derived.Deep.RegionHeld3
namespace Go.Proofs.Ytegdnfmhhigjfaa
open Go.RowKit

theorem ifk {k o : Nat} {x : Nat → Int} : (if o = k then Value.int .i64 (x k) else Value.int .i64 (if o < k then x o else 0)) = Value.int .i64 (if o < k + 1 then x o else 0) := by
  by_cases e : o = k
  · subst e; rw [if_pos rfl, if_pos (by omega)]
  · rw [if_neg e]; congr 1; by_cases e2 : o < k
    · rw [if_pos e2, if_pos (by omega)]
    · rw [if_neg e2, if_neg (by omega)]

set_option maxHeartbeats 4000000 in
set_option maxRecDepth 100000 in
theorem l2Numbers_any (b : Nat → Int) (d i : Nat) (hd : d < 4) (hi : i < 4) (w : World) :
    Calls Try.prog 90 #[.agg #[.int .i64 (b 0), .int .i64 (b 1), .int .i64 (b 2), .int .i64 (b 3), .int .i64 (b 4), .int .i64 (b 5), .int .i64 (b 6), .int .i64 (b 7), .int .i64 (b 8), .int .i64 (b 9), .int .i64 (b 10), .int .i64 (b 11), .int .i64 (b 12), .int .i64 (b 13), .int .i64 (b 14), .int .i64 (b 15)], .int .i64 d, .int .i64 i] w fun e w' => e = .returned (.agg #[.int .i64 ((lineOf b d i) 0), .int .i64 ((lineOf b d i) 1), .int .i64 ((lineOf b d i) 2), .int .i64 ((lineOf b d i) 3)]) ∧ Below w.heap.size w w' := by
  go_enter Try.func90, Try.ntmps90
  go_wp2_with fail
  generalize hW : (w.alloc _).alloc _ = w1
  have hB : Below w.heap.size w w1 := by (rw [← hW]; exact (by repeat (first | (with_reducible exact Below.refl _ _) | (with_reducible assumption) | (with_reducible refine below_go ?_ (by with_reducible assumption)) | (with_reducible refine below_new ?_ _) | ((with_reducible refine below_put ?_ ?_ _); rotate_left; (dsimp only; omega)) | (with_reducible refine Below.drew ?_) | (with_reducible refine below_dn ?_ _))))
  have hsz : Hid (w1.heap.size = w.heap.size + 1 + 1) := hide (by rw [← hW]; simp)
  have i0 : Has w1 (w.heap.size) 16 (fun o => .int .i64 (b o)) := by (rw [← hW]; repeat (first | (refine Has.new ?_ rfl; simp; done) | refine Has.alloc ?_ _))
  have ci0 := i0.1; have fi0 := i0.2.1; have zi0 := i0.2.2
  have i1 : Has w1 (w.heap.size + 1) 4 (fun _ => .int .i64 0) := by (rw [← hW]; repeat (first | (refine Has.new ?_ rfl; simp; done) | refine Has.alloc ?_ _))
  have ci1 := i1.1; have fi1 := i1.2.1; have zi1 := i1.2.2
  clear hW
  go_wp2_with (first | (go_at_call 121; (with_reducible refine (l2Line_any _ _ hd hi _).mono ?_); rintro e w2 ⟨rfl, hb2⟩; have hB' : Below w.heap.size w w2 := below_go (by repeat (first | (with_reducible exact Below.refl _ _) | (with_reducible assumption) | (with_reducible refine below_go ?_ (by with_reducible assumption)) | (with_reducible refine below_new ?_ _) | ((with_reducible refine below_put ?_ ?_ _); rotate_left; (dsimp only; omega)) | (with_reducible refine Below.drew ?_) | (with_reducible refine below_dn ?_ _))) hb2; have i0' : Has w2 (w.heap.size) 16 _ := Has.call (by repeat (first | (with_reducible assumption) | (with_reducible apply Has.set) | ((with_reducible apply Has.other); (case hne => (dsimp only; omega))) | (with_reducible apply Has.alloc) | (with_reducible apply Has.drew) | (with_reducible apply Has.drewN))) hb2; have i1' : Has w2 (w.heap.size + 1) 4 _ := Has.call (by repeat (first | (with_reducible assumption) | (with_reducible apply Has.set) | ((with_reducible apply Has.other); (case hne => (dsimp only; omega))) | (with_reducible apply Has.alloc) | (with_reducible apply Has.drew) | (with_reducible apply Has.drewN))) hb2; clear hB hb2; have hB := hB'; clear hB'; (try clear fi0); (try clear zi0); (try clear ci0); clear i0; have i0 := i0'; clear i0'; have ci0 := i0.1; have fi0 := i0.2.1; have zi0 := i0.2.2; (try clear fi1); (try clear zi1); (try clear ci1); clear i1; have i1 := i1'; clear i1'; have ci1 := i1.1; have fi1 := i1.2.1; have zi1 := i1.2.2))
  have hlt2 : w.heap.size + 1 < w2.heap.size := zi1
  generalize hW : (World.alloc (World.alloc w2 _) _) = w1
  have hB' : Below w.heap.size w w1 := by (rw [← hW]; exact (by repeat (first | (with_reducible exact Below.refl _ _) | (with_reducible assumption) | (with_reducible refine below_go ?_ (by with_reducible assumption)) | (with_reducible refine below_new ?_ _) | ((with_reducible refine below_put ?_ ?_ _); rotate_left; (dsimp only; omega)) | (with_reducible refine Below.drew ?_) | (with_reducible refine below_dn ?_ _))))
  have i0' := Has.at hW (B := w.heap.size) (n := 16) (by repeat (first | (with_reducible assumption) | (with_reducible apply Has.set) | ((with_reducible apply Has.other); (case hne => (dsimp only; omega))) | (with_reducible apply Has.alloc) | (with_reducible apply Has.drew) | (with_reducible apply Has.drewN)))
  have i1' := Has.at hW (B := w.heap.size + 1) (n := 4) (by repeat (first | (with_reducible assumption) | (with_reducible apply Has.set) | ((with_reducible apply Has.other); (case hne => (dsimp only; omega))) | (with_reducible apply Has.alloc) | (with_reducible apply Has.drew) | (with_reducible apply Has.drewN)))
  have j0 := Has.at hW (n := 8) (Has.alloc (Has.new' rfl) _)
  try simp only [World.size_alloc] at j0
  have j1 := Has.at hW (n := 4) (Has.new' rfl)
  try simp only [World.size_alloc] at j1
  clear hW; clear hB; have hB := hB'; clear hB'; (try clear fi0); (try clear zi0); (try clear ci0); clear i0; have i0 := i0'; clear i0'; have ci0 := i0.1; have fi0 := i0.2.1; have zi0 := i0.2.2; (try clear fi1); (try clear zi1); (try clear ci1); clear i1; have i1 := i1'; clear i1'; have ci1 := i1.1; have fi1 := i1.2.1; have zi1 := i1.2.2; have cj0 := j0.1; have fj0 := j0.2.1; have zj0 := j0.2.2; have cj1 := j1.1; have fj1 := j1.2.1; have zj1 := j1.2.2
  generalize hS : w2.heap.size = B2 at *
  clear hS
  have hj0 := j0.congr (d := fun o => .int .i64 (lnC d i o)) (fun o ho => by rcases (by omega : o = 0 ∨ o = 1 ∨ o = 2 ∨ o = 3 ∨ o = 4 ∨ o = 5 ∨ o = 6 ∨ o = 7) with rfl | rfl | rfl | rfl | rfl | rfl | rfl | rfl <;> rfl)
  have hj1 := j1.congr (d := fun o => .int .i64 (if o < 0 then lineOf b d i o else 0)) (fun o ho => by rcases (by omega : o = 0 ∨ o = 1 ∨ o = 2 ∨ o = 3) with rfl | rfl | rfl | rfl <;> rfl)
  have hB2 : w.heap.size + 1 < B2 := hlt2
  clear j0 j1 ci0 fi0 zi0 ci1 fi1 zi1 cj0 fj0 zj0 cj1 fj1 zj1 hsz
  go_loopw [9] (fun v wr => ∃ k : Nat, k ≤ 4 ∧ v = .int .i64 k ∧ Below w.heap.size w wr ∧ Has wr w.heap.size 16 (fun o => .int .i64 (b o)) ∧ Has wr (w.heap.size + 1) 4 (fun _ => .int .i64 0) ∧ Has wr B2 8 (fun o => .int .i64 (lnC d i o)) ∧ Has wr (B2 + 1) 4 (fun o => .int .i64 (if o < k then lineOf b d i o else 0))) (fun i _ => 4 - (intOf i).toNat)
  case atStart => exact ⟨0, by omega, rfl, hB, i0, i1, hj0, hj1⟩
  case round =>
    clear hB i0 i1 hj0 hj1
    obtain ⟨k, hk, rfl, hB, i0, i1, j0, j1⟩ := hrel
    by_cases h4 : k = 4
    · subst h4
      have j1 := j1.congr (d := fun o => .int .i64 (lineOf b d i o)) fun o ho => by rw [if_pos ho]
      have ci1 := i1.1; have fi1 := i1.2.1; have zi1 := i1.2.2
      have cj1 := j1.1
      go_wp2
      refine bodyPost_ret (results_cell rfl rfl (loadVar_A4 (Has.set (Has.set (Has.set (Has.set i1)))) (by omega))) rfl ⟨rfl, (by repeat (first | (with_reducible exact Below.refl _ _) | (with_reducible assumption) | (with_reducible refine below_go ?_ (by with_reducible assumption)) | (with_reducible refine below_new ?_ _) | ((with_reducible refine below_put ?_ ?_ _); rotate_left; (dsimp only; omega)) | (with_reducible refine Below.drew ?_) | (with_reducible refine below_dn ?_ _)))⟩
    · have hlt : k < 4 := by omega
      have hL := lineAt_lt (d := d) hi hlt
      have zi0 := i0.2.2
      have k1 : (0 : Int) ≤ k := by omega
      have k2 : (k : Int) < 4 := by omega
      go_wp2_with fail
      have e1 := lnC_even d i k
      have e2 := lnC_odd d i k
      have q1 : wr.cell? ⟨B2, k * 2, none⟩ = some (.int .i64 (lcR d i k)) := (j0.1 _ (by omega)).trans (by simp only [e1])
      have q2 : wr.cell? ⟨B2, k * 2 + 1, none⟩ = some (.int .i64 (lcC d i k)) := (j0.1 _ (by omega)).trans (by simp only [e2])
      clear e1 e2
      have ci0 := i0.1
      go_region_held3 (fun w' => w'.cell? ⟨w.heap.size, 0, none⟩ = some (.int .i64 (b 0)) ∧ w'.cell? ⟨w.heap.size, 1, none⟩ = some (.int .i64 (b 1)) ∧ w'.cell? ⟨w.heap.size, 2, none⟩ = some (.int .i64 (b 2)) ∧ w'.cell? ⟨w.heap.size, 3, none⟩ = some (.int .i64 (b 3)) ∧ w'.cell? ⟨w.heap.size, 4, none⟩ = some (.int .i64 (b 4)) ∧ w'.cell? ⟨w.heap.size, 5, none⟩ = some (.int .i64 (b 5)) ∧ w'.cell? ⟨w.heap.size, 6, none⟩ = some (.int .i64 (b 6)) ∧ w'.cell? ⟨w.heap.size, 7, none⟩ = some (.int .i64 (b 7)) ∧ w'.cell? ⟨w.heap.size, 8, none⟩ = some (.int .i64 (b 8)) ∧ w'.cell? ⟨w.heap.size, 9, none⟩ = some (.int .i64 (b 9)) ∧ w'.cell? ⟨w.heap.size, 10, none⟩ = some (.int .i64 (b 10)) ∧ w'.cell? ⟨w.heap.size, 11, none⟩ = some (.int .i64 (b 11)) ∧ w'.cell? ⟨w.heap.size, 12, none⟩ = some (.int .i64 (b 12)) ∧ w'.cell? ⟨w.heap.size, 13, none⟩ = some (.int .i64 (b 13)) ∧ w'.cell? ⟨w.heap.size, 14, none⟩ = some (.int .i64 (b 14)) ∧ w'.cell? ⟨w.heap.size, 15, none⟩ = some (.int .i64 (b 15)) ∧ w'.cell? ⟨B2, k * 2, none⟩ = some (.int .i64 (lcR d i k)) ∧ w'.cell? ⟨B2, k * 2 + 1, none⟩ = some (.int .i64 (lcC d i k))) (first
        | exact ⟨(i0).1 _ (by omega), (i0).1 _ (by omega), (i0).1 _ (by omega), (i0).1 _ (by omega), (i0).1 _ (by omega), (i0).1 _ (by omega), (i0).1 _ (by omega), (i0).1 _ (by omega), (i0).1 _ (by omega), (i0).1 _ (by omega), (i0).1 _ (by omega), (i0).1 _ (by omega), (i0).1 _ (by omega), (i0).1 _ (by omega), (i0).1 _ (by omega), (i0).1 _ (by omega), (j0.1 _ (by omega)).trans (by simp only [lnC_even]), (j0.1 _ (by omega)).trans (by simp only [lnC_odd])⟩
        | exact ⟨(i0.drew).1 _ (by omega), (i0.drew).1 _ (by omega), (i0.drew).1 _ (by omega), (i0.drew).1 _ (by omega), (i0.drew).1 _ (by omega), (i0.drew).1 _ (by omega), (i0.drew).1 _ (by omega), (i0.drew).1 _ (by omega), (i0.drew).1 _ (by omega), (i0.drew).1 _ (by omega), (i0.drew).1 _ (by omega), (i0.drew).1 _ (by omega), (i0.drew).1 _ (by omega), (i0.drew).1 _ (by omega), (i0.drew).1 _ (by omega), (i0.drew).1 _ (by omega), (j0.drew.1 _ (by omega)).trans (by simp only [lnC_even]), (j0.drew.1 _ (by omega)).trans (by simp only [lnC_odd])⟩
        | exact ⟨(i0.other (by dsimp only; omega)).1 _ (by omega), (i0.other (by dsimp only; omega)).1 _ (by omega), (i0.other (by dsimp only; omega)).1 _ (by omega), (i0.other (by dsimp only; omega)).1 _ (by omega), (i0.other (by dsimp only; omega)).1 _ (by omega), (i0.other (by dsimp only; omega)).1 _ (by omega), (i0.other (by dsimp only; omega)).1 _ (by omega), (i0.other (by dsimp only; omega)).1 _ (by omega), (i0.other (by dsimp only; omega)).1 _ (by omega), (i0.other (by dsimp only; omega)).1 _ (by omega), (i0.other (by dsimp only; omega)).1 _ (by omega), (i0.other (by dsimp only; omega)).1 _ (by omega), (i0.other (by dsimp only; omega)).1 _ (by omega), (i0.other (by dsimp only; omega)).1 _ (by omega), (i0.other (by dsimp only; omega)).1 _ (by omega), (i0.other (by dsimp only; omega)).1 _ (by omega), ((j0.other (by dsimp only; omega)).1 _ (by omega)).trans (by simp only [lnC_even]), ((j0.other (by dsimp only; omega)).1 _ (by omega)).trans (by simp only [lnC_odd])⟩)
        (first | (go_at_call 101; (with_reducible refine (l2At_line _ _ _ _ hd hi hlt _).mono ?_); rintro e w2 ⟨rfl, hb2⟩; have hB' : Below w.heap.size w w2 := below_go (by repeat (first | (with_reducible exact Below.refl _ _) | (with_reducible assumption) | (with_reducible refine below_go ?_ (by with_reducible assumption)) | (with_reducible refine below_new ?_ _) | ((with_reducible refine below_put ?_ ?_ _); rotate_left; (dsimp only; omega)) | (with_reducible refine Below.drew ?_) | (with_reducible refine below_dn ?_ _))) hb2; have i0' : Has w2 (w.heap.size) 16 _ := Has.call (by repeat (first | (with_reducible assumption) | (with_reducible apply Has.set) | ((with_reducible apply Has.other); (case hne => (dsimp only; omega))) | (with_reducible apply Has.alloc) | (with_reducible apply Has.drew) | (with_reducible apply Has.drewN))) hb2; have i1' : Has w2 (w.heap.size + 1) 4 _ := Has.call (by repeat (first | (with_reducible assumption) | (with_reducible apply Has.set) | ((with_reducible apply Has.other); (case hne => (dsimp only; omega))) | (with_reducible apply Has.alloc) | (with_reducible apply Has.drew) | (with_reducible apply Has.drewN))) hb2; have j0' : Has w2 (B2) 8 _ := Has.call (by repeat (first | (with_reducible assumption) | (with_reducible apply Has.set) | ((with_reducible apply Has.other); (case hne => (dsimp only; omega))) | (with_reducible apply Has.alloc) | (with_reducible apply Has.drew) | (with_reducible apply Has.drewN))) hb2; have j1' : Has w2 (B2 + 1) 4 _ := Has.call (by repeat (first | (with_reducible assumption) | (with_reducible apply Has.set) | ((with_reducible apply Has.other); (case hne => (dsimp only; omega))) | (with_reducible apply Has.alloc) | (with_reducible apply Has.drew) | (with_reducible apply Has.drewN))) hb2; clear hB hb2; have hB := hB'; clear hB'; (try clear fi0); (try clear zi0); (try clear ci0); clear i0; have i0 := i0'; clear i0'; have ci0 := i0.1; have fi0 := i0.2.1; have zi0 := i0.2.2; (try clear fi1); (try clear zi1); (try clear ci1); clear i1; have i1 := i1'; clear i1'; have ci1 := i1.1; have fi1 := i1.2.1; have zi1 := i1.2.2; (try clear fj0); (try clear zj0); (try clear cj0); clear j0; have j0 := j0'; clear j0'; have cj0 := j0.1; have fj0 := j0.2.1; have zj0 := j0.2.2; (try clear fj1); (try clear zj1); (try clear cj1); clear j1; have j1 := j1'; clear j1'; have cj1 := j1.1; have fj1 := j1.2.1; have zj1 := j1.2.2))
      clear q1 q2 ci0 fi0 fi1 fj0 fj1
      go_wp2
      go_roundw
      case rel => exact ⟨k + 1, by omega, by go_num, (by repeat (first | (with_reducible exact Below.refl _ _) | (with_reducible assumption) | (with_reducible refine below_go ?_ (by with_reducible assumption)) | (with_reducible refine below_new ?_ _) | ((with_reducible refine below_put ?_ ?_ _); rotate_left; (dsimp only; omega)) | (with_reducible refine Below.drew ?_) | (with_reducible refine below_dn ?_ _))), (Has.other i0 (by dsimp only; omega)), (Has.other i1 (by dsimp only; omega)), (Has.other j0 (by dsimp only; omega)), Has.congr (Has.set j1) fun o _ => ifk (x := lineOf b d i)⟩
      case measure => simp [intOf]; omega

end Go.Proofs.Ytegdnfmhhigjfaa
