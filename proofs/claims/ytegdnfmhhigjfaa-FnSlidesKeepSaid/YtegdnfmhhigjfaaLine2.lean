/-
  Contracts: a board with another line (the program's); a line's cells, a cell read and written (the reference's).
-/
import Derived.Test.YtegdnfmhhigjfaaQBoard1
namespace Go.Proofs.Ytegdnfmhhigjfaa
open Go.RowKit

theorem index4 (r : Nat → Int) (k : Nat) (hk : k < 4) (w : World) : (Instr.index 24 (.agg #[.int .i64 (r 0), .int .i64 (r 1), .int .i64 (r 2), .int .i64 (r 3)]) (.int .i64 (k : Int))).run Try.prog w = .ok (.int .i64 (r k)) w := by
  rcases (by omega : k = 0 ∨ k = 1 ∨ k = 2 ∨ k = 3) with rfl | rfl | rfl | rfl <;> kernel_rfl

set_option maxHeartbeats 4000000 in
set_option maxRecDepth 100000 in
theorem withLine_any (b : Nat → Int) (d i : Nat) (r : Nat → Int) (hd : d < 4) (hi : i < 4) (w : World) :
    Calls Try.prog 117 #[.agg #[.int .i64 (b 0), .int .i64 (b 1), .int .i64 (b 2), .int .i64 (b 3), .int .i64 (b 4), .int .i64 (b 5), .int .i64 (b 6), .int .i64 (b 7), .int .i64 (b 8), .int .i64 (b 9), .int .i64 (b 10), .int .i64 (b 11), .int .i64 (b 12), .int .i64 (b 13), .int .i64 (b 14), .int .i64 (b 15)], .int .i64 d, .int .i64 i, .agg #[.int .i64 (r 0), .int .i64 (r 1), .int .i64 (r 2), .int .i64 (r 3)]] w fun e w' => e = .returned (.agg #[.int .i64 ((setL b d i r) 0), .int .i64 ((setL b d i r) 1), .int .i64 ((setL b d i r) 2), .int .i64 ((setL b d i r) 3), .int .i64 ((setL b d i r) 4), .int .i64 ((setL b d i r) 5), .int .i64 ((setL b d i r) 6), .int .i64 ((setL b d i r) 7), .int .i64 ((setL b d i r) 8), .int .i64 ((setL b d i r) 9), .int .i64 ((setL b d i r) 10), .int .i64 ((setL b d i r) 11), .int .i64 ((setL b d i r) 12), .int .i64 ((setL b d i r) 13), .int .i64 ((setL b d i r) 14), .int .i64 ((setL b d i r) 15)]) ∧ Below w.heap.size w w' := by
  go_enter Try.func117, Try.ntmps117
  go_wp2_with fail
  generalize hW : ((w.alloc _).alloc _).alloc _ = w1
  have hB : Below w.heap.size w w1 := by (rw [← hW]; exact (by repeat (first | (with_reducible exact Below.refl _ _) | (with_reducible assumption) | (with_reducible refine below_go ?_ (by with_reducible assumption)) | (with_reducible refine below_new ?_ _) | ((with_reducible refine below_put ?_ ?_ _); rotate_left; (dsimp only; omega)) | (with_reducible refine Below.drew ?_) | (with_reducible refine below_dn ?_ _))))
  have hsz : Hid (w1.heap.size = w.heap.size + 1 + 1 + 1) := hide (by rw [← hW]; simp)
  have i0 : Has w1 (w.heap.size) 16 (fun o => .int .i64 (b o)) := by (rw [← hW]; repeat (first | (refine Has.new ?_ rfl; simp; done) | refine Has.alloc ?_ _))
  have ci0 := i0.1; have fi0 := i0.2.1; have zi0 := i0.2.2
  have i2 : Has w1 (w.heap.size + 1 + 1) 16 (fun _ => .int .i64 0) := by (rw [← hW]; repeat (first | (refine Has.new ?_ rfl; simp; done) | refine Has.alloc ?_ _))
  have ci2 := i2.1; have fi2 := i2.2.1; have zi2 := i2.2.2
  clear hW
  have S0 : Has w1 (w.heap.size) 16 (fun o => .int .i64 (setTo b d i r 0 o)) := i0.congr fun o _ => by rw [setTo_zero]
  clear i0 ci0 fi0 zi0 ci2 fi2 zi2 hsz
  go_loopw [12] (fun v wr => ∃ k : Nat, k ≤ 4 ∧ v = .int .i64 k ∧ Below w.heap.size w wr ∧ Has wr w.heap.size 16 (fun o => .int .i64 (setTo b d i r k o)) ∧ Has wr (w.heap.size + 1 + 1) 16 (fun _ => .int .i64 0)) (fun i _ => 4 - (intOf i).toNat)
  case atStart => exact ⟨0, by omega, rfl, hB, S0, i2⟩
  case round =>
    clear S0 hB i2
    obtain ⟨k, hk, rfl, hB, i0, i2⟩ := hrel
    by_cases h4 : k = 4
    · subst h4
      have i0 : Has wr w.heap.size 16 (fun o => .int .i64 (setL b d i r o)) := i0
      go_wp2_with (first | (refine load_Board rfl _ rfl _ _ rfl (by repeat (first | (with_reducible assumption) | (with_reducible apply Has.set) | ((with_reducible apply Has.other); (case hne => (dsimp only; omega))) | (with_reducible apply Has.alloc) | (with_reducible apply Has.drew) | (with_reducible apply Has.drewN))) (by omega) ?_) | (refine store_Board rfl _ _ rfl _ _ _ _ _ _ _ _ _ _ _ _ _ _ _ _ _ _ rfl rfl rfl (by repeat (first | (with_reducible assumption) | (with_reducible apply Has.set) | ((with_reducible apply Has.other); (case hne => (dsimp only; omega))) | (with_reducible apply Has.alloc) | (with_reducible apply Has.drew) | (with_reducible apply Has.drewN))) (by omega) ?_; intro w3 ho3 hn3; have hB' : Below w.heap.size w w3 := below_only (by repeat (first | (with_reducible exact Below.refl _ _) | (with_reducible assumption) | (with_reducible refine below_go ?_ (by with_reducible assumption)) | (with_reducible refine below_new ?_ _) | ((with_reducible refine below_put ?_ ?_ _); rotate_left; (dsimp only; omega)) | (with_reducible refine Below.drew ?_) | (with_reducible refine below_dn ?_ _))) ho3 (by omega); have i0' : Has w3 (w.heap.size) 16 _ := (by first | (with_reducible exact hn3) | exact Has.only (by repeat (first | (with_reducible assumption) | (with_reducible apply Has.set) | ((with_reducible apply Has.other); (case hne => (dsimp only; omega))) | (with_reducible apply Has.alloc) | (with_reducible apply Has.drew) | (with_reducible apply Has.drewN))) ho3 (by omega)); have i2' : Has w3 (w.heap.size + 1 + 1) 16 _ := (by first | (with_reducible exact hn3) | exact Has.only (by repeat (first | (with_reducible assumption) | (with_reducible apply Has.set) | ((with_reducible apply Has.other); (case hne => (dsimp only; omega))) | (with_reducible apply Has.alloc) | (with_reducible apply Has.drew) | (with_reducible apply Has.drewN))) ho3 (by omega)); clear ho3 hn3; clear hB; have hB := hB'; clear hB'; (try clear fi0); (try clear zi0); (try clear ci0); clear i0; have i0 := i0'; clear i0'; have ci0 := i0.1; have fi0 := i0.2.1; have zi0 := i0.2.2; (try clear fi2); (try clear zi2); (try clear ci2); clear i2; have i2 := i2'; clear i2'; have ci2 := i2.1; have fi2 := i2.2.1; have zi2 := i2.2.2))
      refine bodyPost_ret (results_cell rfl rfl (loadVar_Board i2 (by omega))) rfl ⟨rfl, (by repeat (first | (with_reducible exact Below.refl _ _) | (with_reducible assumption) | (with_reducible refine below_go ?_ (by with_reducible assumption)) | (with_reducible refine below_new ?_ _) | ((with_reducible refine below_put ?_ ?_ _); rotate_left; (dsimp only; omega)) | (with_reducible refine Below.drew ?_) | (with_reducible refine below_dn ?_ _)))⟩
    · have hlt : k < 4 := by omega
      have hL := lineAt_lt (d := d) hi hlt
      have hx := index4 r k hlt
      have ci0 := i0.1; have fi0 := i0.2.1; have zi0 := i0.2.2
      have fi2 := i2.2.1; have zi2 := i2.2.2
      go_wp2_with (first | (go_at_call 119; (with_reducible refine (lineCell_any _ _ _ hd (by omega) (by omega) _).mono ?_); rintro e w2 ⟨rfl, hb2⟩; have hB' : Below w.heap.size w w2 := below_go (by repeat (first | (with_reducible exact Below.refl _ _) | (with_reducible assumption) | (with_reducible refine below_go ?_ (by with_reducible assumption)) | (with_reducible refine below_new ?_ _) | ((with_reducible refine below_put ?_ ?_ _); rotate_left; (dsimp only; omega)) | (with_reducible refine Below.drew ?_) | (with_reducible refine below_dn ?_ _))) hb2; have i0' : Has w2 (w.heap.size) 16 _ := Has.call (by repeat (first | (with_reducible assumption) | (with_reducible apply Has.set) | ((with_reducible apply Has.other); (case hne => (dsimp only; omega))) | (with_reducible apply Has.alloc) | (with_reducible apply Has.drew) | (with_reducible apply Has.drewN))) hb2; have i2' : Has w2 (w.heap.size + 1 + 1) 16 _ := Has.call (by repeat (first | (with_reducible assumption) | (with_reducible apply Has.set) | ((with_reducible apply Has.other); (case hne => (dsimp only; omega))) | (with_reducible apply Has.alloc) | (with_reducible apply Has.drew) | (with_reducible apply Has.drewN))) hb2; clear hB hb2; have hB := hB'; clear hB'; (try clear fi0); (try clear zi0); (try clear ci0); clear i0; have i0 := i0'; clear i0'; have ci0 := i0.1; have fi0 := i0.2.1; have zi0 := i0.2.2; (try clear fi2); (try clear zi2); (try clear ci2); clear i2; have i2 := i2'; clear i2'; have ci2 := i2.1; have fi2 := i2.2.1; have zi2 := i2.2.2) | (go_at_call 98; (with_reducible refine (at_line _ _ _ _ hd hi hlt _).mono ?_); rintro e w2 ⟨rfl, hb2⟩; have hB' : Below w.heap.size w w2 := below_go (by repeat (first | (with_reducible exact Below.refl _ _) | (with_reducible assumption) | (with_reducible refine below_go ?_ (by with_reducible assumption)) | (with_reducible refine below_new ?_ _) | ((with_reducible refine below_put ?_ ?_ _); rotate_left; (dsimp only; omega)) | (with_reducible refine Below.drew ?_) | (with_reducible refine below_dn ?_ _))) hb2; have i0' : Has w2 (w.heap.size) 16 _ := Has.call (by repeat (first | (with_reducible assumption) | (with_reducible apply Has.set) | ((with_reducible apply Has.other); (case hne => (dsimp only; omega))) | (with_reducible apply Has.alloc) | (with_reducible apply Has.drew) | (with_reducible apply Has.drewN))) hb2; have i2' : Has w2 (w.heap.size + 1 + 1) 16 _ := Has.call (by repeat (first | (with_reducible assumption) | (with_reducible apply Has.set) | ((with_reducible apply Has.other); (case hne => (dsimp only; omega))) | (with_reducible apply Has.alloc) | (with_reducible apply Has.drew) | (with_reducible apply Has.drewN))) hb2; clear hB hb2; have hB := hB'; clear hB'; (try clear fi0); (try clear zi0); (try clear ci0); clear i0; have i0 := i0'; clear i0'; have ci0 := i0.1; have fi0 := i0.2.1; have zi0 := i0.2.2; (try clear fi2); (try clear zi2); (try clear ci2); clear i2; have i2 := i2'; clear i2'; have ci2 := i2.1; have fi2 := i2.2.1; have zi2 := i2.2.2) | (refine store_int rfl _ _ rfl _ _ _ rfl rfl (by repeat (first | (with_reducible assumption) | (with_reducible apply Has.set) | ((with_reducible apply Has.other); (case hne => (dsimp only; omega))) | (with_reducible apply Has.alloc) | (with_reducible apply Has.drew) | (with_reducible apply Has.drewN))) (by omega) ?_; intro w3 ho3 hn3; have hB' : Below w.heap.size w w3 := below_only (by repeat (first | (with_reducible exact Below.refl _ _) | (with_reducible assumption) | (with_reducible refine below_go ?_ (by with_reducible assumption)) | (with_reducible refine below_new ?_ _) | ((with_reducible refine below_put ?_ ?_ _); rotate_left; (dsimp only; omega)) | (with_reducible refine Below.drew ?_) | (with_reducible refine below_dn ?_ _))) ho3 (by omega); have i0' : Has w3 (w.heap.size) 16 _ := (by first | (with_reducible exact hn3) | exact Has.only (by repeat (first | (with_reducible assumption) | (with_reducible apply Has.set) | ((with_reducible apply Has.other); (case hne => (dsimp only; omega))) | (with_reducible apply Has.alloc) | (with_reducible apply Has.drew) | (with_reducible apply Has.drewN))) ho3 (by omega)); have i2' : Has w3 (w.heap.size + 1 + 1) 16 _ := (by first | (with_reducible exact hn3) | exact Has.only (by repeat (first | (with_reducible assumption) | (with_reducible apply Has.set) | ((with_reducible apply Has.other); (case hne => (dsimp only; omega))) | (with_reducible apply Has.alloc) | (with_reducible apply Has.drew) | (with_reducible apply Has.drewN))) ho3 (by omega)); clear ho3 hn3; clear hB; have hB := hB'; clear hB'; (try clear fi0); (try clear zi0); (try clear ci0); clear i0; have i0 := i0'; clear i0'; have ci0 := i0.1; have fi0 := i0.2.1; have zi0 := i0.2.2; (try clear fi2); (try clear zi2); (try clear ci2); clear i2; have i2 := i2'; clear i2'; have ci2 := i2.1; have fi2 := i2.2.1; have zi2 := i2.2.2))
      go_roundw
      case rel => exact ⟨k + 1, by omega, by go_num, hB, i0.congr fun o ho => (ite_int _ _ _).trans (by rw [setTo_succ hd hi hlt ho]), i2⟩
      case measure => simp [intOf]; omega

/-- The numbers of a line's cells, as the reference lists them. -/
def lnC (d i p : Nat) : Int := if p % 2 = 0 then lcR d i ((p / 2 : Nat) : Int) else lcC d i ((p / 2 : Nat) : Int)
theorem lnC_even (d i k : Nat) : lnC d i (k * 2) = lcR d i k := by
  unfold lnC
  rw [if_pos (by omega), show k * 2 / 2 = k by omega]
theorem lnC_odd (d i k : Nat) : lnC d i (k * 2 + 1) = lcC d i k := by
  unfold lnC
  rw [if_neg (by omega), show (k * 2 + 1) / 2 = k by omega]

set_option maxHeartbeats 4000000 in
theorem l2Line_any (d i : Nat) (hd : d < 4) (_hi : i < 4) (w : World) :
    Calls Try.prog 121 #[.int .i64 d, .int .i64 i] w fun e w' => e = .returned (.agg #[.int .i64 (lnC d i 0), .int .i64 (lnC d i 1), .int .i64 (lnC d i 2), .int .i64 (lnC d i 3), .int .i64 (lnC d i 4), .int .i64 (lnC d i 5), .int .i64 (lnC d i 6), .int .i64 (lnC d i 7)]) ∧ Below w.heap.size w w' := by
  rcases d4 hd with rfl | rfl | rfl | rfl
  all_goals
    go_enter Try.func121, Try.ntmps121
    go_wp2_with (first | (rw [rounds_succ]) | (with_reducible refine wp_loop_rounds 5 ?_))
    refine bodyPost_ret (v := .agg #[.int .i64 (lnC _ i 0), .int .i64 (lnC _ i 1), .int .i64 (lnC _ i 2), .int .i64 (lnC _ i 3), .int .i64 (lnC _ i 4), .int .i64 (lnC _ i 5), .int .i64 (lnC _ i 6), .int .i64 (lnC _ i 7)]) (by simp [results, Try.results121, go_sem, lnC, lcR, lcC]) rfl ⟨rfl, (by repeat (first | (with_reducible exact Below.refl _ _) | (with_reducible assumption) | (with_reducible refine below_go ?_ (by with_reducible assumption)) | (with_reducible refine below_new ?_ _) | ((with_reducible refine below_put ?_ ?_ _); rotate_left; (dsimp only; omega)) | (with_reducible refine Below.drew ?_) | (with_reducible refine below_dn ?_ _)))⟩

set_option maxHeartbeats 1000000 in
theorem l2At_any (b : Nat → Int) (x y : Int) (hx0 : 0 ≤ x) (hx3 : x < 4) (hy0 : 0 ≤ y) (hy3 : y < 4) (w : World) :
    Calls Try.prog 101 #[.agg #[.int .i64 (b 0), .int .i64 (b 1), .int .i64 (b 2), .int .i64 (b 3), .int .i64 (b 4), .int .i64 (b 5), .int .i64 (b 6), .int .i64 (b 7), .int .i64 (b 8), .int .i64 (b 9), .int .i64 (b 10), .int .i64 (b 11), .int .i64 (b 12), .int .i64 (b 13), .int .i64 (b 14), .int .i64 (b 15)], .agg #[.int .i64 x, .int .i64 y]] w fun e w' => e = .returned (.int .i64 (b (x.toNat * 4 + y.toNat))) ∧ Below w.heap.size w w' := by
  have hlt : x.toNat * 4 + y.toNat < 16 := by omega
  go_enter Try.func101, Try.ntmps101
  go_wp2_with fail
  generalize hW : (w.alloc _).alloc _ = w1
  have hB : Below w.heap.size w w1 := by (rw [← hW]; exact (by repeat (first | (with_reducible exact Below.refl _ _) | (with_reducible assumption) | (with_reducible refine below_go ?_ (by with_reducible assumption)) | (with_reducible refine below_new ?_ _) | ((with_reducible refine below_put ?_ ?_ _); rotate_left; (dsimp only; omega)) | (with_reducible refine Below.drew ?_) | (with_reducible refine below_dn ?_ _))))
  have hsz : Hid (w1.heap.size = w.heap.size + 1 + 1) := hide (by rw [← hW]; simp)
  have i0 : Has w1 (w.heap.size) 16 (fun o => .int .i64 (b o)) := by (rw [← hW]; repeat (first | (refine Has.new ?_ rfl; simp; done) | refine Has.alloc ?_ _))
  have ci0 := i0.1; have fi0 := i0.2.1; have zi0 := i0.2.2
  have i1 : Has w1 (w.heap.size + 1) 2 (fun o => #[Value.int .i64 x, .int .i64 y].getD o undef) := by (rw [← hW]; repeat (first | (refine Has.new ?_ rfl; simp; done) | refine Has.alloc ?_ _))
  have ci1 := i1.1; have fi1 := i1.2.1; have zi1 := i1.2.2
  clear hW
  have c10 : w1.cell? ⟨w.heap.size + 1, 0, none⟩ = some (.int .i64 x) := i1.1 0 (by omega)
  have c11 : w1.cell? ⟨w.heap.size + 1, 1, none⟩ = some (.int .i64 y) := i1.1 1 (by omega)
  clear i1 ci1 fi1
  go_quiet (fail)
  go_wp2
  go_ret
  exact ⟨rfl, (by repeat (first | (with_reducible exact Below.refl _ _) | (with_reducible assumption) | (with_reducible refine below_go ?_ (by with_reducible assumption)) | (with_reducible refine below_new ?_ _) | ((with_reducible refine below_put ?_ ?_ _); rotate_left; (dsimp only; omega)) | (with_reducible refine Below.drew ?_) | (with_reducible refine below_dn ?_ _)))⟩
theorem l2At_line (b : Nat → Int) (d i k : Nat) (hd : d < 4) (hi : i < 4) (hk : k < 4) (w : World) :
    Calls Try.prog 101 #[.agg #[.int .i64 (b 0), .int .i64 (b 1), .int .i64 (b 2), .int .i64 (b 3), .int .i64 (b 4), .int .i64 (b 5), .int .i64 (b 6), .int .i64 (b 7), .int .i64 (b 8), .int .i64 (b 9), .int .i64 (b 10), .int .i64 (b 11), .int .i64 (b 12), .int .i64 (b 13), .int .i64 (b 14), .int .i64 (b 15)], .agg #[.int .i64 (lcR d i k), .int .i64 (lcC d i k)]] w fun e w' => e = .returned (.int .i64 (b (lineAt d i k))) ∧ Below w.heap.size w w' := by
  have h := lc_in hd hi hk
  have h2 := l2At_any b (lcR d i k) (lcC d i k) h.1 h.2.1 h.2.2.1 h.2.2.2 w
  rw [lc_at hd hi hk] at h2
  exact h2

def putB (b : Nat → Int) (o : Nat) (t : Int) : Nat → Int := fun p => if p = o then t else b p

set_option maxHeartbeats 1000000 in
set_option maxRecDepth 100000 in
theorem l2Put_any (b : Nat → Int) (x y t : Int) (hx0 : 0 ≤ x) (hx3 : x < 4) (hy0 : 0 ≤ y) (hy3 : y < 4) (w : World) :
    Calls Try.prog 102 #[.agg #[.int .i64 (b 0), .int .i64 (b 1), .int .i64 (b 2), .int .i64 (b 3), .int .i64 (b 4), .int .i64 (b 5), .int .i64 (b 6), .int .i64 (b 7), .int .i64 (b 8), .int .i64 (b 9), .int .i64 (b 10), .int .i64 (b 11), .int .i64 (b 12), .int .i64 (b 13), .int .i64 (b 14), .int .i64 (b 15)], .agg #[.int .i64 x, .int .i64 y], .int .i64 t] w fun e w' => e = .returned (.agg #[.int .i64 ((putB b (x.toNat * 4 + y.toNat) t) 0), .int .i64 ((putB b (x.toNat * 4 + y.toNat) t) 1), .int .i64 ((putB b (x.toNat * 4 + y.toNat) t) 2), .int .i64 ((putB b (x.toNat * 4 + y.toNat) t) 3), .int .i64 ((putB b (x.toNat * 4 + y.toNat) t) 4), .int .i64 ((putB b (x.toNat * 4 + y.toNat) t) 5), .int .i64 ((putB b (x.toNat * 4 + y.toNat) t) 6), .int .i64 ((putB b (x.toNat * 4 + y.toNat) t) 7), .int .i64 ((putB b (x.toNat * 4 + y.toNat) t) 8), .int .i64 ((putB b (x.toNat * 4 + y.toNat) t) 9), .int .i64 ((putB b (x.toNat * 4 + y.toNat) t) 10), .int .i64 ((putB b (x.toNat * 4 + y.toNat) t) 11), .int .i64 ((putB b (x.toNat * 4 + y.toNat) t) 12), .int .i64 ((putB b (x.toNat * 4 + y.toNat) t) 13), .int .i64 ((putB b (x.toNat * 4 + y.toNat) t) 14), .int .i64 ((putB b (x.toNat * 4 + y.toNat) t) 15)]) ∧ Below w.heap.size w w' := by
  have hlt : x.toNat * 4 + y.toNat < 16 := by omega
  obtain ⟨q, hq⟩ : ∃ q, q = x.toNat * 4 + y.toNat := ⟨_, rfl⟩
  rw [← hq]
  have HQ := hide hq
  clear hq
  go_enter Try.func102, Try.ntmps102
  go_wp2_with fail
  generalize hW : ((w.alloc _).alloc _).alloc _ = w1
  have hB : Below w.heap.size w w1 := by (rw [← hW]; exact (by repeat (first | (with_reducible exact Below.refl _ _) | (with_reducible assumption) | (with_reducible refine below_go ?_ (by with_reducible assumption)) | (with_reducible refine below_new ?_ _) | ((with_reducible refine below_put ?_ ?_ _); rotate_left; (dsimp only; omega)) | (with_reducible refine Below.drew ?_) | (with_reducible refine below_dn ?_ _))))
  have hsz : Hid (w1.heap.size = w.heap.size + 1 + 1 + 1) := hide (by rw [← hW]; simp)
  have i0 : Has w1 (w.heap.size) 16 (fun o => .int .i64 (b o)) := by (rw [← hW]; repeat (first | (refine Has.new ?_ rfl; simp; done) | refine Has.alloc ?_ _))
  have ci0 := i0.1; have fi0 := i0.2.1; have zi0 := i0.2.2
  have i1 : Has w1 (w.heap.size + 1) 2 (fun o => #[Value.int .i64 x, .int .i64 y].getD o undef) := by (rw [← hW]; repeat (first | (refine Has.new ?_ rfl; simp; done) | refine Has.alloc ?_ _))
  have ci1 := i1.1; have fi1 := i1.2.1; have zi1 := i1.2.2
  have i2 : Has w1 (w.heap.size + 1 + 1) 16 (fun _ => .int .i64 0) := by (rw [← hW]; repeat (first | (refine Has.new ?_ rfl; simp; done) | refine Has.alloc ?_ _))
  have ci2 := i2.1; have fi2 := i2.2.1; have zi2 := i2.2.2
  clear hW
  have c10 : w1.cell? ⟨w.heap.size + 1, 0, none⟩ = some (.int .i64 x) := i1.1 0 (by omega)
  have c11 : w1.cell? ⟨w.heap.size + 1, 1, none⟩ = some (.int .i64 y) := i1.1 1 (by omega)
  clear i1 ci1 fi1
  refine wp_region_still_tail 8 (by kernel_rfl) (by kernel_rfl) ?_
  simp only [List.take_succ_cons, List.take_zero, List.drop_succ_cons, List.drop_zero]
  repeat still_step
  refine wpStill_nil ?_
  change wpList _ _ _ _ _ (World.drew _)
  refine store_int rfl _ _ rfl _ (x.toNat * 4 + y.toNat) _ rfl rfl (by repeat (first | (with_reducible assumption) | (with_reducible apply Has.set) | ((with_reducible apply Has.other); (case hne => (dsimp only; omega))) | (with_reducible apply Has.alloc) | (with_reducible apply Has.drew) | (with_reducible apply Has.drewN))) hlt ?_
  intro w3 ho3 hn3
  have hB := below_only (Below.drew hB) ho3 (Nat.le_refl _)
  rw [← HQ.out] at hn3
  have i2 : Has w3 (w.heap.size + 1 + 1) 16 _ := Has.only (by repeat (first | (with_reducible assumption) | (with_reducible apply Has.set) | ((with_reducible apply Has.other); (case hne => (dsimp only; omega))) | (with_reducible apply Has.alloc) | (with_reducible apply Has.drew) | (with_reducible apply Has.drewN))) ho3 (by omega)
  have i0 : Has w3 w.heap.size 16 (fun o => .int .i64 (putB b q t o)) := hn3.congr fun o _ => ite_int _ _ _
  clear ho3 hn3
  go_wp2_with (first | (refine load_Board rfl _ rfl _ _ rfl (by repeat (first | (with_reducible assumption) | (with_reducible apply Has.set) | ((with_reducible apply Has.other); (case hne => (dsimp only; omega))) | (with_reducible apply Has.alloc) | (with_reducible apply Has.drew) | (with_reducible apply Has.drewN))) (by omega) ?_) | (refine store_Board rfl _ _ rfl _ _ _ _ _ _ _ _ _ _ _ _ _ _ _ _ _ _ rfl rfl rfl (by repeat (first | (with_reducible assumption) | (with_reducible apply Has.set) | ((with_reducible apply Has.other); (case hne => (dsimp only; omega))) | (with_reducible apply Has.alloc) | (with_reducible apply Has.drew) | (with_reducible apply Has.drewN))) (by omega) ?_; intro w3 ho3 hn3; have hB' : Below w.heap.size w w3 := below_only (by repeat (first | (with_reducible exact Below.refl _ _) | (with_reducible assumption) | (with_reducible refine below_go ?_ (by with_reducible assumption)) | (with_reducible refine below_new ?_ _) | ((with_reducible refine below_put ?_ ?_ _); rotate_left; (dsimp only; omega)) | (with_reducible refine Below.drew ?_) | (with_reducible refine below_dn ?_ _))) ho3 (by omega); have i0' : Has w3 (w.heap.size) 16 _ := (by first | (with_reducible exact hn3) | exact Has.only (by repeat (first | (with_reducible assumption) | (with_reducible apply Has.set) | ((with_reducible apply Has.other); (case hne => (dsimp only; omega))) | (with_reducible apply Has.alloc) | (with_reducible apply Has.drew) | (with_reducible apply Has.drewN))) ho3 (by omega)); have i2' : Has w3 (w.heap.size + 1 + 1) 16 _ := (by first | (with_reducible exact hn3) | exact Has.only (by repeat (first | (with_reducible assumption) | (with_reducible apply Has.set) | ((with_reducible apply Has.other); (case hne => (dsimp only; omega))) | (with_reducible apply Has.alloc) | (with_reducible apply Has.drew) | (with_reducible apply Has.drewN))) ho3 (by omega)); clear ho3 hn3; clear hB; have hB := hB'; clear hB'; (try clear fi0); (try clear zi0); (try clear ci0); clear i0; have i0 := i0'; clear i0'; have ci0 := i0.1; have fi0 := i0.2.1; have zi0 := i0.2.2; (try clear fi2); (try clear zi2); (try clear ci2); clear i2; have i2 := i2'; clear i2'; have ci2 := i2.1; have fi2 := i2.2.1; have zi2 := i2.2.2))
  refine bodyPost_ret (results_cell rfl rfl (loadVar_Board i2 (by omega))) rfl ⟨rfl, (by repeat (first | (with_reducible exact Below.refl _ _) | (with_reducible assumption) | (with_reducible refine below_go ?_ (by with_reducible assumption)) | (with_reducible refine below_new ?_ _) | ((with_reducible refine below_put ?_ ?_ _); rotate_left; (dsimp only; omega)) | (with_reducible refine Below.drew ?_) | (with_reducible refine below_dn ?_ _)))⟩

end Go.Proofs.Ytegdnfmhhigjfaa
