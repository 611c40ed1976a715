/-
  Contracts: the pointer to a cell; the cell at a place of a line; a line of a board, read and written.
-/
import Derived.Test.YtmjehagmgifchaaBoard1
import Derived.Test.YtmjehagmgifchaaBase2
import Derived.Test.YtmjehagmgifchaaBoardMath
import Derived.Test.YtmjehagmgifchaaSl
namespace Go.Proofs.Ytmjehagmgifchaa
open Go.RowKit

set_option maxHeartbeats 1000000 in
theorem at_any (B : Nat) (x y : Int) (hx0 : 0 ≤ x) (hx3 : x < 4) (hy0 : 0 ≤ y) (hy3 : y < 4) (w : World) :
    Calls Try.prog 84 #[.pointer (some ⟨B, 0, none⟩), .agg #[.int .i64 x, .int .i64 y]] w fun e w' => e = .returned (.pointer (some ⟨B, x.toNat * 4 + y.toNat, none⟩)) ∧ Below w.heap.size w w' := by
  go_enter Try.func84, Try.ntmps84
  go_wp2_with (first | (go_quiet (fail)))
  go_ret
  exact ⟨rfl, (by repeat (first | (with_reducible exact Below.refl _ _) | (with_reducible assumption) | (with_reducible refine below_go ?_ (by with_reducible assumption)) | (with_reducible refine below_new ?_ _) | ((with_reducible refine below_put ?_ ?_ _); rotate_left; (dsimp only; omega)) | (with_reducible refine Below.drew ?_) | (with_reducible refine below_dn ?_ _)))⟩

def lcR (d : Nat) (i k : Int) : Int := match d with | 0 => i | 1 => k | 2 => i | _ => 3 - k
def lcC (d : Nat) (i k : Int) : Int := match d with | 0 => k | 1 => i | 2 => 3 - k | _ => i

set_option maxHeartbeats 1000000 in
theorem lineCell_any (d : Nat) (i k : Int) (hd : d < 4) (hk0 : 0 ≤ k) (hk3 : k < 4) (w : World) :
    Calls Try.prog 159 #[.int .i64 d, .int .i64 i, .int .i64 k] w fun e w' => e = .returned (.agg #[.int .i64 (lcR d i k), .int .i64 (lcC d i k)]) ∧ Below w.heap.size w w' := by
  rcases (by omega : d = 0 ∨ d = 1 ∨ d = 2 ∨ d = 3) with rfl | rfl | rfl | rfl
  all_goals
    clear hd
    go_enter Try.func159, Try.ntmps159
    go_wp2
    refine bodyPost_ret (v := .agg #[.int .i64 (lcR _ i k), .int .i64 (lcC _ i k)]) (by simp [results, Try.results159, go_sem, lcR, lcC]) rfl ⟨rfl, (by repeat (first | (with_reducible exact Below.refl _ _) | (with_reducible assumption) | (with_reducible refine below_go ?_ (by with_reducible assumption)) | (with_reducible refine below_new ?_ _) | ((with_reducible refine below_put ?_ ?_ _); rotate_left; (dsimp only; omega)) | (with_reducible refine Below.drew ?_) | (with_reducible refine below_dn ?_ _)))⟩

theorem lc_at {d i k : Nat} (hd : d < 4) (hi : i < 4) (hk : k < 4) : (lcR d i k).toNat * 4 + (lcC d i k).toNat = lineAt d i k := by
  rcases d4 hd with rfl | rfl | rfl | rfl <;> simp only [lineAt, lcR, lcC] <;> omega
theorem lc_in {d i k : Nat} (hd : d < 4) (hi : i < 4) (hk : k < 4) : 0 ≤ lcR d i k ∧ lcR d i k < 4 ∧ 0 ≤ lcC d i k ∧ lcC d i k < 4 := by
  rcases d4 hd with rfl | rfl | rfl | rfl <;> simp only [lcR, lcC] <;> omega

theorem at_line (B d i k : Nat) (hd : d < 4) (hi : i < 4) (hk : k < 4) (w : World) :
    Calls Try.prog 84 #[.pointer (some ⟨B, 0, none⟩), .agg #[.int .i64 (lcR d i k), .int .i64 (lcC d i k)]] w fun e w' => e = .returned (.pointer (some ⟨B, lineAt d i k, none⟩)) ∧ Below w.heap.size w w' := by
  have b := lc_in hd hi hk
  have h := at_any B (lcR d i k) (lcC d i k) b.1 b.2.1 b.2.2.1 b.2.2.2 w
  rw [lc_at hd hi hk] at h
  exact h

set_option maxHeartbeats 4000000 in
set_option maxRecDepth 100000 in
theorem line_any (b : Nat → Int) (d i : Nat) (hd : d < 4) (hi : i < 4) (w : World) :
    Calls Try.prog 115 #[.agg #[.int .i64 (b 0), .int .i64 (b 1), .int .i64 (b 2), .int .i64 (b 3), .int .i64 (b 4), .int .i64 (b 5), .int .i64 (b 6), .int .i64 (b 7), .int .i64 (b 8), .int .i64 (b 9), .int .i64 (b 10), .int .i64 (b 11), .int .i64 (b 12), .int .i64 (b 13), .int .i64 (b 14), .int .i64 (b 15)], .int .i64 d, .int .i64 i] w fun e w' => e = .returned (.agg #[.int .i64 ((lineOf b d i) 0), .int .i64 ((lineOf b d i) 1), .int .i64 ((lineOf b d i) 2), .int .i64 ((lineOf b d i) 3)]) ∧ Below w.heap.size w w' := by
  go_enter Try.func115, Try.ntmps115
  go_wp2_with fail
  generalize hW : ((w.alloc _).alloc _).alloc _ = w1
  have hB : Below w.heap.size w w1 := by (rw [← hW]; exact (by repeat (first | (with_reducible exact Below.refl _ _) | (with_reducible assumption) | (with_reducible refine below_go ?_ (by with_reducible assumption)) | (with_reducible refine below_new ?_ _) | ((with_reducible refine below_put ?_ ?_ _); rotate_left; (dsimp only; omega)) | (with_reducible refine Below.drew ?_) | (with_reducible refine below_dn ?_ _))))
  have hsz : Hid (w1.heap.size = w.heap.size + 1 + 1 + 1) := hide (by rw [← hW]; simp)
  have i0 : Has w1 (w.heap.size) 16 (fun o => .int .i64 (b o)) := by (rw [← hW]; repeat (first | (refine Has.new ?_ rfl; simp; done) | refine Has.alloc ?_ _))
  have ci0 := i0.1; have fi0 := i0.2.1; have zi0 := i0.2.2
  have i1 : Has w1 (w.heap.size + 1) 4 (fun _ => .int .i64 0) := by (rw [← hW]; repeat (first | (refine Has.new ?_ rfl; simp; done) | refine Has.alloc ?_ _))
  have ci1 := i1.1; have fi1 := i1.2.1; have zi1 := i1.2.2
  have i2 : Has w1 (w.heap.size + 1 + 1) 4 (fun _ => .int .i64 0) := by (rw [← hW]; repeat (first | (refine Has.new ?_ rfl; simp; done) | refine Has.alloc ?_ _))
  have ci2 := i2.1; have fi2 := i2.2.1; have zi2 := i2.2.2
  clear hW
  have S0 : Has w1 (w.heap.size + 1 + 1) 4 (fun o => .int .i64 (if o < 0 then lineOf b d i o else 0)) := i2.congr fun o _ => by simp
  clear i2 ci0 fi0 zi0 ci1 fi1 zi1 ci2 fi2 zi2 hsz
  go_loopw [10] (fun v wr => ∃ k : Nat, k ≤ 4 ∧ v = .int .i64 k ∧ Below w.heap.size w wr ∧ Has wr w.heap.size 16 (fun o => .int .i64 (b o)) ∧ Has wr (w.heap.size + 1) 4 (fun _ => .int .i64 0) ∧ Has wr (w.heap.size + 1 + 1) 4 (fun o => .int .i64 (if o < k then lineOf b d i o else 0))) (fun i _ => 4 - (intOf i).toNat)
  case atStart => exact ⟨0, by omega, rfl, hB, i0, i1, S0⟩
  case round =>
    clear S0 hB i0 i1
    obtain ⟨k, hk, rfl, hB, i0, i1, i2⟩ := hrel
    by_cases h4 : k = 4
    · subst h4
      have i2 := i2.congr (d := fun o => .int .i64 (lineOf b d i o)) fun o ho => by rw [if_pos ho]
      have ci1 := i1.1; have fi1 := i1.2.1; have zi1 := i1.2.2
      have ci2 := i2.1
      go_wp2
      refine bodyPost_ret (results_cell rfl rfl (loadVar_A4 (Has.set (Has.set (Has.set (Has.set i1)))) (by omega))) rfl ⟨rfl, (by repeat (first | (with_reducible exact Below.refl _ _) | (with_reducible assumption) | (with_reducible refine below_go ?_ (by with_reducible assumption)) | (with_reducible refine below_new ?_ _) | ((with_reducible refine below_put ?_ ?_ _); rotate_left; (dsimp only; omega)) | (with_reducible refine Below.drew ?_) | (with_reducible refine below_dn ?_ _)))⟩
    · have hlt : k < 4 := by omega
      have hL := lineAt_lt (d := d) hi hlt
      have ci0 := i0.1; have fi0 := i0.2.1; have zi0 := i0.2.2
      have ci1 := i1.1; have fi1 := i1.2.1; have zi1 := i1.2.2
      have ci2 := i2.1; have fi2 := i2.2.1; have zi2 := i2.2.2
      go_wp2_with (first | (go_at_call 159; (with_reducible refine (lineCell_any _ _ _ hd (by omega) (by omega) _).mono ?_); rintro e w2 ⟨rfl, hb2⟩; have hB' : Below w.heap.size w w2 := below_go (by repeat (first | (with_reducible exact Below.refl _ _) | (with_reducible assumption) | (with_reducible refine below_go ?_ (by with_reducible assumption)) | (with_reducible refine below_new ?_ _) | ((with_reducible refine below_put ?_ ?_ _); rotate_left; (dsimp only; omega)) | (with_reducible refine Below.drew ?_) | (with_reducible refine below_dn ?_ _))) hb2; have i0' : Has w2 (w.heap.size) 16 _ := Has.call (by repeat (first | (with_reducible assumption) | (with_reducible apply Has.set) | ((with_reducible apply Has.other); (case hne => (dsimp only; omega))) | (with_reducible apply Has.alloc) | (with_reducible apply Has.drew) | (with_reducible apply Has.drewN))) hb2; have i1' : Has w2 (w.heap.size + 1) 4 _ := Has.call (by repeat (first | (with_reducible assumption) | (with_reducible apply Has.set) | ((with_reducible apply Has.other); (case hne => (dsimp only; omega))) | (with_reducible apply Has.alloc) | (with_reducible apply Has.drew) | (with_reducible apply Has.drewN))) hb2; have i2' : Has w2 (w.heap.size + 1 + 1) 4 _ := Has.call (by repeat (first | (with_reducible assumption) | (with_reducible apply Has.set) | ((with_reducible apply Has.other); (case hne => (dsimp only; omega))) | (with_reducible apply Has.alloc) | (with_reducible apply Has.drew) | (with_reducible apply Has.drewN))) hb2; clear hB hb2; have hB := hB'; clear hB'; (try clear fi0); (try clear zi0); (try clear ci0); clear i0; have i0 := i0'; clear i0'; have ci0 := i0.1; have fi0 := i0.2.1; have zi0 := i0.2.2; (try clear fi1); (try clear zi1); (try clear ci1); clear i1; have i1 := i1'; clear i1'; have ci1 := i1.1; have fi1 := i1.2.1; have zi1 := i1.2.2; (try clear fi2); (try clear zi2); (try clear ci2); clear i2; have i2 := i2'; clear i2'; have ci2 := i2.1; have fi2 := i2.2.1; have zi2 := i2.2.2) | (go_at_call 84; (with_reducible refine (at_line _ _ _ _ hd hi hlt _).mono ?_); rintro e w2 ⟨rfl, hb2⟩; have hB' : Below w.heap.size w w2 := below_go (by repeat (first | (with_reducible exact Below.refl _ _) | (with_reducible assumption) | (with_reducible refine below_go ?_ (by with_reducible assumption)) | (with_reducible refine below_new ?_ _) | ((with_reducible refine below_put ?_ ?_ _); rotate_left; (dsimp only; omega)) | (with_reducible refine Below.drew ?_) | (with_reducible refine below_dn ?_ _))) hb2; have i0' : Has w2 (w.heap.size) 16 _ := Has.call (by repeat (first | (with_reducible assumption) | (with_reducible apply Has.set) | ((with_reducible apply Has.other); (case hne => (dsimp only; omega))) | (with_reducible apply Has.alloc) | (with_reducible apply Has.drew) | (with_reducible apply Has.drewN))) hb2; have i1' : Has w2 (w.heap.size + 1) 4 _ := Has.call (by repeat (first | (with_reducible assumption) | (with_reducible apply Has.set) | ((with_reducible apply Has.other); (case hne => (dsimp only; omega))) | (with_reducible apply Has.alloc) | (with_reducible apply Has.drew) | (with_reducible apply Has.drewN))) hb2; have i2' : Has w2 (w.heap.size + 1 + 1) 4 _ := Has.call (by repeat (first | (with_reducible assumption) | (with_reducible apply Has.set) | ((with_reducible apply Has.other); (case hne => (dsimp only; omega))) | (with_reducible apply Has.alloc) | (with_reducible apply Has.drew) | (with_reducible apply Has.drewN))) hb2; clear hB hb2; have hB := hB'; clear hB'; (try clear fi0); (try clear zi0); (try clear ci0); clear i0; have i0 := i0'; clear i0'; have ci0 := i0.1; have fi0 := i0.2.1; have zi0 := i0.2.2; (try clear fi1); (try clear zi1); (try clear ci1); clear i1; have i1 := i1'; clear i1'; have ci1 := i1.1; have fi1 := i1.2.1; have zi1 := i1.2.2; (try clear fi2); (try clear zi2); (try clear ci2); clear i2; have i2 := i2'; clear i2'; have ci2 := i2.1; have fi2 := i2.2.1; have zi2 := i2.2.2) | (refine load_int rfl _ rfl _ _ rfl (by repeat (first | (with_reducible assumption) | (with_reducible apply Has.set) | ((with_reducible apply Has.other); (case hne => (dsimp only; omega))) | (with_reducible apply Has.alloc) | (with_reducible apply Has.drew) | (with_reducible apply Has.drewN))) (by omega) ?_) | (refine store_int rfl _ _ rfl _ _ _ rfl rfl (by repeat (first | (with_reducible assumption) | (with_reducible apply Has.set) | ((with_reducible apply Has.other); (case hne => (dsimp only; omega))) | (with_reducible apply Has.alloc) | (with_reducible apply Has.drew) | (with_reducible apply Has.drewN))) (by omega) ?_; intro w3 ho3 hn3; have hB' : Below w.heap.size w w3 := below_only (by repeat (first | (with_reducible exact Below.refl _ _) | (with_reducible assumption) | (with_reducible refine below_go ?_ (by with_reducible assumption)) | (with_reducible refine below_new ?_ _) | ((with_reducible refine below_put ?_ ?_ _); rotate_left; (dsimp only; omega)) | (with_reducible refine Below.drew ?_) | (with_reducible refine below_dn ?_ _))) ho3 (by omega); have i0' : Has w3 (w.heap.size) 16 _ := (by first | (with_reducible exact hn3) | exact Has.only (by repeat (first | (with_reducible assumption) | (with_reducible apply Has.set) | ((with_reducible apply Has.other); (case hne => (dsimp only; omega))) | (with_reducible apply Has.alloc) | (with_reducible apply Has.drew) | (with_reducible apply Has.drewN))) ho3 (by omega)); have i1' : Has w3 (w.heap.size + 1) 4 _ := (by first | (with_reducible exact hn3) | exact Has.only (by repeat (first | (with_reducible assumption) | (with_reducible apply Has.set) | ((with_reducible apply Has.other); (case hne => (dsimp only; omega))) | (with_reducible apply Has.alloc) | (with_reducible apply Has.drew) | (with_reducible apply Has.drewN))) ho3 (by omega)); have i2' : Has w3 (w.heap.size + 1 + 1) 4 _ := (by first | (with_reducible exact hn3) | exact Has.only (by repeat (first | (with_reducible assumption) | (with_reducible apply Has.set) | ((with_reducible apply Has.other); (case hne => (dsimp only; omega))) | (with_reducible apply Has.alloc) | (with_reducible apply Has.drew) | (with_reducible apply Has.drewN))) ho3 (by omega)); clear ho3 hn3; clear hB; have hB := hB'; clear hB'; (try clear fi0); (try clear zi0); (try clear ci0); clear i0; have i0 := i0'; clear i0'; have ci0 := i0.1; have fi0 := i0.2.1; have zi0 := i0.2.2; (try clear fi1); (try clear zi1); (try clear ci1); clear i1; have i1 := i1'; clear i1'; have ci1 := i1.1; have fi1 := i1.2.1; have zi1 := i1.2.2; (try clear fi2); (try clear zi2); (try clear ci2); clear i2; have i2 := i2'; clear i2'; have ci2 := i2.1; have fi2 := i2.2.1; have zi2 := i2.2.2))
      go_roundw
      case rel => exact ⟨k + 1, by omega, by go_num, hB, i0, i1, i2.congr fun o _ => by
        by_cases e : o = k
        · subst e; rw [if_pos rfl, if_pos (by omega)]; rfl
        · rw [if_neg e]; congr 1; by_cases e2 : o < k
          · rw [if_pos e2, if_pos (by omega)]
          · rw [if_neg e2, if_neg (by omega)]⟩
      case measure => simp [intOf]; omega

end Go.Proofs.Ytmjehagmgifchaa
