/-
  Contracts: CountTiles, the reference's; equality of equal counts.
-/
import Derived.Test.YtjnmdhnckmmdnaaCntB
namespace Go.Proofs.Ytjnmdhnckmmdnaa
open Go.RowKit

set_option maxHeartbeats 8000000 in
set_option maxRecDepth 100000 in
theorem specCountTiles_no (b : Nat → Int) (hb : bdB b = false) (w : World) : Calls Try.prog 29 #[.agg #[.int .i64 (b 0), .int .i64 (b 1), .int .i64 (b 2), .int .i64 (b 3), .int .i64 (b 4), .int .i64 (b 5), .int .i64 (b 6), .int .i64 (b 7), .int .i64 (b 8), .int .i64 (b 9), .int .i64 (b 10), .int .i64 (b 11), .int .i64 (b 12), .int .i64 (b 13), .int .i64 (b 14), .int .i64 (b 15)]] w fun e w' => e = .returned (.tuple #[.agg #[.int .i64 0, .int .i64 0, .int .i64 0, .int .i64 0, .int .i64 0, .int .i64 0, .int .i64 0, .int .i64 0, .int .i64 0, .int .i64 0, .int .i64 0, .int .i64 0, .int .i64 0, .int .i64 0, .int .i64 0, .int .i64 0, .int .i64 0, .int .i64 0], .bool false]) ∧ Below w.heap.size w w' := by
  go_enter Try.func29, Try.ntmps29
  go_upto_region 1 with (fail)
  generalize hW : (w.alloc _).alloc _ = w1
  have hB : Below w.heap.size w w1 := by (rw [← hW]; exact (by repeat (first | (with_reducible exact Below.refl _ _) | (with_reducible assumption) | (with_reducible refine below_go ?_ (by with_reducible assumption)) | (with_reducible refine below_new ?_ _) | ((with_reducible refine below_put ?_ ?_ _); rotate_left; (dsimp only; omega)) | (with_reducible refine Below.drew ?_) | (with_reducible refine below_dn ?_ _))))
  have hsz : Hid (w1.heap.size = w.heap.size + 1 + 1) := hide (by rw [← hW]; simp)
  have i0 : Has w1 (w.heap.size) 16 (fun o => .int .i64 (b o)) := by (rw [← hW]; repeat (first | (refine Has.new ?_ rfl; simp; done) | refine Has.alloc ?_ _))
  have ci0 := i0.1; have fi0 := i0.2.1; have zi0 := i0.2.2
  have i1 : Has w1 (w.heap.size + 1) 18 (fun _ => .int .i64 0) := by (rw [← hW]; repeat (first | (refine Has.new ?_ rfl; simp; done) | refine Has.alloc ?_ _))
  have ci1 := i1.1; have fi1 := i1.2.1; have zi1 := i1.2.2
  clear hW
  clear ci0 fi0 zi0 ci1 fi1 zi1
  go_upto_region 2 with ((refine store_A18Z rfl _ _ rfl _ rfl rfl (Has.new' (n := 18) rfl) ?_); intro w3 ho3 hn3)
  have j0 := Has.only (Has.alloc i0 _) ho3 (by have := i0.2.2; omega)
  have j1 := Has.only (Has.alloc i1 _) ho3 (by have := i1.2.2; omega)
  have hB3 : Below w.heap.size w w3 := below_only (below_new hB _) ho3 (by have := i0.2.2; omega)
  have hz12 : w.heap.size + 1 < w1.heap.size := by have := hsz.out; omega
  clear hB i0 i1 ho3
  have hB := hB3; have i0 := j0; have i1 := j1; have i2 := hn3
  clear hB3 j0 j1 hn3
  have ci0 := i0.1; have fi0 := i0.2.1; have zi0 := i0.2.2; have zi1 := i1.2.2; have zi2 := i2.2.2
  clear hsz
  generalize hS : w1.heap.size = B2 at *
  clear hS
  go_wp2_with (first | (go_at_call 89; (with_reducible refine (Calls.bool_as (l2Board_any b _) hb).mono ?_); rintro e w2 ⟨rfl, hb2⟩; have hB' : Below w.heap.size w w2 := below_go (by repeat (first | (with_reducible exact Below.refl _ _) | (with_reducible assumption) | (with_reducible refine below_go ?_ (by with_reducible assumption)) | (with_reducible refine below_new ?_ _) | ((with_reducible refine below_put ?_ ?_ _); rotate_left; (dsimp only; omega)) | (with_reducible refine Below.drew ?_) | (with_reducible refine below_dn ?_ _))) hb2; have i0' : Has w2 (w.heap.size) 16 _ := Has.call (by repeat (first | (with_reducible assumption) | (with_reducible apply Has.set) | ((with_reducible apply Has.other); (case hne => (dsimp only; omega))) | (with_reducible apply Has.alloc) | (with_reducible apply Has.drew) | (with_reducible apply Has.drewN))) hb2; have i1' : Has w2 (w.heap.size + 1) 18 _ := Has.call (by repeat (first | (with_reducible assumption) | (with_reducible apply Has.set) | ((with_reducible apply Has.other); (case hne => (dsimp only; omega))) | (with_reducible apply Has.alloc) | (with_reducible apply Has.drew) | (with_reducible apply Has.drewN))) hb2; have i2' : Has w2 (B2) 18 _ := Has.call (by repeat (first | (with_reducible assumption) | (with_reducible apply Has.set) | ((with_reducible apply Has.other); (case hne => (dsimp only; omega))) | (with_reducible apply Has.alloc) | (with_reducible apply Has.drew) | (with_reducible apply Has.drewN))) hb2; clear hB hb2; have hB := hB'; clear hB'; (try clear fi0); (try clear zi0); (try clear ci0); clear i0; have i0 := i0'; clear i0'; have ci0 := i0.1; have fi0 := i0.2.1; have zi0 := i0.2.2; (try clear fi1); (try clear zi1); (try clear ci1); clear i1; have i1 := i1'; clear i1'; have ci1 := i1.1; have fi1 := i1.2.1; have zi1 := i1.2.2; (try clear fi2); (try clear zi2); (try clear ci2); clear i2; have i2 := i2'; clear i2'; have ci2 := i2.1; have fi2 := i2.2.1; have zi2 := i2.2.2) | (refine load_Board rfl _ rfl _ _ rfl (by repeat (first | (with_reducible assumption) | (with_reducible apply Has.set) | ((with_reducible apply Has.other); (case hne => (dsimp only; omega))) | (with_reducible apply Has.alloc) | (with_reducible apply Has.drew) | (with_reducible apply Has.drewN))) (by omega) ?_) | (refine load_A18Z rfl _ rfl _ rfl ((by repeat (first | (with_reducible assumption) | (with_reducible apply Has.set) | ((with_reducible apply Has.other); (case hne => (dsimp only; omega))) | (with_reducible apply Has.alloc) | (with_reducible apply Has.drew) | (with_reducible apply Has.drewN)))) ?_) | (refine store_A18Z rfl _ _ rfl _ rfl rfl (by repeat (first | (with_reducible assumption) | (with_reducible apply Has.set) | ((with_reducible apply Has.other); (case hne => (dsimp only; omega))) | (with_reducible apply Has.alloc) | (with_reducible apply Has.drew) | (with_reducible apply Has.drewN))) ?_; intro w3 ho3 hn3; have hB' : Below w.heap.size w w3 := below_only (by repeat (first | (with_reducible exact Below.refl _ _) | (with_reducible assumption) | (with_reducible refine below_go ?_ (by with_reducible assumption)) | (with_reducible refine below_new ?_ _) | ((with_reducible refine below_put ?_ ?_ _); rotate_left; (dsimp only; omega)) | (with_reducible refine Below.drew ?_) | (with_reducible refine below_dn ?_ _))) ho3 (by omega); have i0' : Has w3 (w.heap.size) 16 _ := (by first | (with_reducible exact hn3) | exact Has.only (by repeat (first | (with_reducible assumption) | (with_reducible apply Has.set) | ((with_reducible apply Has.other); (case hne => (dsimp only; omega))) | (with_reducible apply Has.alloc) | (with_reducible apply Has.drew) | (with_reducible apply Has.drewN))) ho3 (by omega)); have i1' : Has w3 (w.heap.size + 1) 18 _ := (by first | (with_reducible exact hn3) | exact Has.only (by repeat (first | (with_reducible assumption) | (with_reducible apply Has.set) | ((with_reducible apply Has.other); (case hne => (dsimp only; omega))) | (with_reducible apply Has.alloc) | (with_reducible apply Has.drew) | (with_reducible apply Has.drewN))) ho3 (by omega)); have i2' : Has w3 (B2) 18 _ := (by first | (with_reducible exact hn3) | exact Has.only (by repeat (first | (with_reducible assumption) | (with_reducible apply Has.set) | ((with_reducible apply Has.other); (case hne => (dsimp only; omega))) | (with_reducible apply Has.alloc) | (with_reducible apply Has.drew) | (with_reducible apply Has.drewN))) ho3 (by omega)); clear ho3 hn3; clear hB; have hB := hB'; clear hB'; (try clear fi0); (try clear zi0); (try clear ci0); clear i0; have i0 := i0'; clear i0'; have ci0 := i0.1; have fi0 := i0.2.1; have zi0 := i0.2.2; (try clear fi1); (try clear zi1); (try clear ci1); clear i1; have i1 := i1'; clear i1'; have ci1 := i1.1; have fi1 := i1.2.1; have zi1 := i1.2.2; (try clear fi2); (try clear zi2); (try clear ci2); clear i2; have i2 := i2'; clear i2'; have ci2 := i2.1; have fi2 := i2.2.1; have zi2 := i2.2.2))
  refine bodyPost_ret (results_cell_t rfl rfl (loadVar_A18Z i1)) rfl ⟨rfl, (by repeat (first | (with_reducible exact Below.refl _ _) | (with_reducible assumption) | (with_reducible refine below_go ?_ (by with_reducible assumption)) | (with_reducible refine below_new ?_ _) | ((with_reducible refine below_put ?_ ?_ _); rotate_left; (dsimp only; omega)) | (with_reducible refine Below.drew ?_) | (with_reducible refine below_dn ?_ _)))⟩

set_option maxHeartbeats 8000000 in
set_option maxRecDepth 100000 in
theorem specCountTiles_yes (b : Nat → Int) (hb : bdB b = true) (w : World) : Calls Try.prog 29 #[.agg #[.int .i64 (b 0), .int .i64 (b 1), .int .i64 (b 2), .int .i64 (b 3), .int .i64 (b 4), .int .i64 (b 5), .int .i64 (b 6), .int .i64 (b 7), .int .i64 (b 8), .int .i64 (b 9), .int .i64 (b 10), .int .i64 (b 11), .int .i64 (b 12), .int .i64 (b 13), .int .i64 (b 14), .int .i64 (b 15)]] w fun e w' => e = .returned (.tuple #[.agg #[.int .i64 (ctF b 16 0), .int .i64 (ctF b 16 1), .int .i64 (ctF b 16 2), .int .i64 (ctF b 16 3), .int .i64 (ctF b 16 4), .int .i64 (ctF b 16 5), .int .i64 (ctF b 16 6), .int .i64 (ctF b 16 7), .int .i64 (ctF b 16 8), .int .i64 (ctF b 16 9), .int .i64 (ctF b 16 10), .int .i64 (ctF b 16 11), .int .i64 (ctF b 16 12), .int .i64 (ctF b 16 13), .int .i64 (ctF b 16 14), .int .i64 (ctF b 16 15), .int .i64 (ctF b 16 16), .int .i64 (ctF b 16 17)], .bool true]) ∧ Below w.heap.size w w' := by
  have HB := hide (bdB_in hb)
  go_enter Try.func29, Try.ntmps29
  go_upto_region 1 with (fail)
  generalize hW : (w.alloc _).alloc _ = w1
  have hB : Below w.heap.size w w1 := by (rw [← hW]; exact (by repeat (first | (with_reducible exact Below.refl _ _) | (with_reducible assumption) | (with_reducible refine below_go ?_ (by with_reducible assumption)) | (with_reducible refine below_new ?_ _) | ((with_reducible refine below_put ?_ ?_ _); rotate_left; (dsimp only; omega)) | (with_reducible refine Below.drew ?_) | (with_reducible refine below_dn ?_ _))))
  have hsz : Hid (w1.heap.size = w.heap.size + 1 + 1) := hide (by rw [← hW]; simp)
  have i0 : Has w1 (w.heap.size) 16 (fun o => .int .i64 (b o)) := by (rw [← hW]; repeat (first | (refine Has.new ?_ rfl; simp; done) | refine Has.alloc ?_ _))
  have ci0 := i0.1; have fi0 := i0.2.1; have zi0 := i0.2.2
  have i1 : Has w1 (w.heap.size + 1) 18 (fun _ => .int .i64 0) := by (rw [← hW]; repeat (first | (refine Has.new ?_ rfl; simp; done) | refine Has.alloc ?_ _))
  have ci1 := i1.1; have fi1 := i1.2.1; have zi1 := i1.2.2
  clear hW
  clear ci0 fi0 zi0 ci1 fi1 zi1
  go_upto_region 2 with ((refine store_A18Z rfl _ _ rfl _ rfl rfl (Has.new' (n := 18) rfl) ?_); intro w3 ho3 hn3)
  have j0 := Has.only (Has.alloc i0 _) ho3 (by have := i0.2.2; omega)
  have j1 := Has.only (Has.alloc i1 _) ho3 (by have := i1.2.2; omega)
  have hB3 : Below w.heap.size w w3 := below_only (below_new hB _) ho3 (by have := i0.2.2; omega)
  have hz12 : w.heap.size + 1 < w1.heap.size := by have := hsz.out; omega
  clear hB i0 i1 ho3
  have hB := hB3; have i0 := j0; have i1 := j1; have i2 := hn3
  clear hB3 j0 j1 hn3
  have ci0 := i0.1; have fi0 := i0.2.1; have zi0 := i0.2.2; have zi1 := i1.2.2; have zi2 := i2.2.2
  clear hsz
  generalize hS : w1.heap.size = B2 at *
  clear hS
  have i2 : Has w3 B2 18 (fun o => .int .i64 (ctF b 0 o)) := i2.congr fun o _ => by rw [ctF_zero]
  go_upto_region 5 with (first | (go_at_call 89; (with_reducible refine (Calls.bool_as (l2Board_any b _) hb).mono ?_); rintro e w2 ⟨rfl, hb2⟩; have hB' : Below w.heap.size w w2 := below_go (by repeat (first | (with_reducible exact Below.refl _ _) | (with_reducible assumption) | (with_reducible refine below_go ?_ (by with_reducible assumption)) | (with_reducible refine below_new ?_ _) | ((with_reducible refine below_put ?_ ?_ _); rotate_left; (dsimp only; omega)) | (with_reducible refine Below.drew ?_) | (with_reducible refine below_dn ?_ _))) hb2; have i0' : Has w2 (w.heap.size) 16 _ := Has.call (by repeat (first | (with_reducible assumption) | (with_reducible apply Has.set) | ((with_reducible apply Has.other); (case hne => (dsimp only; omega))) | (with_reducible apply Has.alloc) | (with_reducible apply Has.drew) | (with_reducible apply Has.drewN))) hb2; have i1' : Has w2 (w.heap.size + 1) 18 _ := Has.call (by repeat (first | (with_reducible assumption) | (with_reducible apply Has.set) | ((with_reducible apply Has.other); (case hne => (dsimp only; omega))) | (with_reducible apply Has.alloc) | (with_reducible apply Has.drew) | (with_reducible apply Has.drewN))) hb2; have i2' : Has w2 (B2) 18 _ := Has.call (by repeat (first | (with_reducible assumption) | (with_reducible apply Has.set) | ((with_reducible apply Has.other); (case hne => (dsimp only; omega))) | (with_reducible apply Has.alloc) | (with_reducible apply Has.drew) | (with_reducible apply Has.drewN))) hb2; clear hB hb2; have hB := hB'; clear hB'; (try clear fi0); (try clear zi0); (try clear ci0); clear i0; have i0 := i0'; clear i0'; have ci0 := i0.1; have fi0 := i0.2.1; have zi0 := i0.2.2; (try clear fi1); (try clear zi1); (try clear ci1); clear i1; have i1 := i1'; clear i1'; have ci1 := i1.1; have fi1 := i1.2.1; have zi1 := i1.2.2; (try clear fi2); (try clear zi2); (try clear ci2); clear i2; have i2 := i2'; clear i2'; have ci2 := i2.1; have fi2 := i2.2.1; have zi2 := i2.2.2) | (refine load_Board rfl _ rfl _ _ rfl (by repeat (first | (with_reducible assumption) | (with_reducible apply Has.set) | ((with_reducible apply Has.other); (case hne => (dsimp only; omega))) | (with_reducible apply Has.alloc) | (with_reducible apply Has.drew) | (with_reducible apply Has.drewN))) (by omega) ?_))
  clear ci0 fi0 zi0 zi1 zi2; (try clear ci1); (try clear fi1); (try clear ci2); (try clear fi2)
  go_loopw [5] (fun v wr => ∃ r : Nat, r ≤ 4 ∧ v = .int .i64 r ∧ Below w.heap.size w wr ∧ Has wr w.heap.size 16 (fun o => .int .i64 (b o)) ∧ Has wr (w.heap.size + 1) 18 (fun _ => .int .i64 0) ∧ Has wr B2 18 (fun o => .int .i64 (ctF b (4 * r) o))) (fun i _ => 4 - (intOf i).toNat)
  case atStart => exact ⟨0, by omega, rfl, hB, i0, i1, i2⟩
  case round =>
    clear hB i0 i1 i2
    obtain ⟨r, hr, rfl, hB, i0, i1, i2⟩ := hrel
    by_cases h4 : r = 4
    · subst h4
      go_wp2_with (first | (refine load_A18F rfl _ rfl _ rfl ((by repeat (first | (with_reducible assumption) | (with_reducible apply Has.set) | ((with_reducible apply Has.other); (case hne => (dsimp only; omega))) | (with_reducible apply Has.alloc) | (with_reducible apply Has.drew) | (with_reducible apply Has.drewN)))) ?_) | (refine store_A18F rfl _ _ rfl _ _ rfl rfl (by repeat (first | (with_reducible assumption) | (with_reducible apply Has.set) | ((with_reducible apply Has.other); (case hne => (dsimp only; omega))) | (with_reducible apply Has.alloc) | (with_reducible apply Has.drew) | (with_reducible apply Has.drewN))) ?_; intro w3 ho3 hn3; have hB' : Below w.heap.size w w3 := below_only (by repeat (first | (with_reducible exact Below.refl _ _) | (with_reducible assumption) | (with_reducible refine below_go ?_ (by with_reducible assumption)) | (with_reducible refine below_new ?_ _) | ((with_reducible refine below_put ?_ ?_ _); rotate_left; (dsimp only; omega)) | (with_reducible refine Below.drew ?_) | (with_reducible refine below_dn ?_ _))) ho3 (by omega); have i0' : Has w3 (w.heap.size) 16 _ := (by first | (with_reducible exact hn3) | exact Has.only (by repeat (first | (with_reducible assumption) | (with_reducible apply Has.set) | ((with_reducible apply Has.other); (case hne => (dsimp only; omega))) | (with_reducible apply Has.alloc) | (with_reducible apply Has.drew) | (with_reducible apply Has.drewN))) ho3 (by omega)); have i1' : Has w3 (w.heap.size + 1) 18 _ := (by first | (with_reducible exact hn3) | exact Has.only (by repeat (first | (with_reducible assumption) | (with_reducible apply Has.set) | ((with_reducible apply Has.other); (case hne => (dsimp only; omega))) | (with_reducible apply Has.alloc) | (with_reducible apply Has.drew) | (with_reducible apply Has.drewN))) ho3 (by omega)); have i2' : Has w3 (B2) 18 _ := (by first | (with_reducible exact hn3) | exact Has.only (by repeat (first | (with_reducible assumption) | (with_reducible apply Has.set) | ((with_reducible apply Has.other); (case hne => (dsimp only; omega))) | (with_reducible apply Has.alloc) | (with_reducible apply Has.drew) | (with_reducible apply Has.drewN))) ho3 (by omega)); clear ho3 hn3; clear hB; have hB := hB'; clear hB'; (try clear fi0); (try clear zi0); (try clear ci0); clear i0; have i0 := i0'; clear i0'; have ci0 := i0.1; have fi0 := i0.2.1; have zi0 := i0.2.2; (try clear fi1); (try clear zi1); (try clear ci1); clear i1; have i1 := i1'; clear i1'; have ci1 := i1.1; have fi1 := i1.2.1; have zi1 := i1.2.2; (try clear fi2); (try clear zi2); (try clear ci2); clear i2; have i2 := i2'; clear i2'; have ci2 := i2.1; have fi2 := i2.2.1; have zi2 := i2.2.2))
      refine bodyPost_ret (results_cell_t rfl rfl (loadVar_A18 i1)) rfl ⟨rfl, (by repeat (first | (with_reducible exact Below.refl _ _) | (with_reducible assumption) | (with_reducible refine below_go ?_ (by with_reducible assumption)) | (with_reducible refine below_new ?_ _) | ((with_reducible refine below_put ?_ ?_ _); rotate_left; (dsimp only; omega)) | (with_reducible refine Below.drew ?_) | (with_reducible refine below_dn ?_ _)))⟩
    · have hlt : r < 4 := by omega
      have hlti : (r : Int) < 4 := by omega
      have a0 : (0 : Int) ≤ r := by omega
      have hdr : decide ((r : Int) < 4) = true := decide_eq_true hlti
      go_wp2_with fail
      go_loopw [6] (fun v wr => ∃ c : Nat, c ≤ 4 ∧ v = .int .i64 c ∧ Below w.heap.size w wr ∧ Has wr w.heap.size 16 (fun o => .int .i64 (b o)) ∧ Has wr (w.heap.size + 1) 18 (fun _ => .int .i64 0) ∧ Has wr B2 18 (fun o => .int .i64 (ctF b (4 * r + c) o))) (fun i _ => 4 - (intOf i).toNat)
      case atStart => exact ⟨0, by omega, rfl, hB, i0, i1, i2⟩
      case round =>
        clear hB i0 i1 i2
        obtain ⟨c, hc, rfl, hB, i0, i1, i2⟩ := hrel
        by_cases h4 : c = 4
        · subst h4
          go_wp2
          go_roundw
          case rel => exact ⟨r + 1, by omega, by go_num, hB, i0, i1, by rw [Nat.mul_succ]; exact i2⟩
          case measure => simp [intOf]; omega
        · have hltc : c < 4 := by omega
          have a1 : (0 : Int) ≤ c := by omega
          obtain ⟨hb0, hb1⟩ := HB.out (4 * r + c) (by omega)
          obtain ⟨tn, ht⟩ : ∃ tn : Nat, b (4 * r + c) = (tn : Int) := ⟨(b (4 * r + c)).toNat, by omega⟩
          have ht17 : tn < 18 := by omega
          have a2 : (0 : Int) ≤ tn := by omega
          have a3 : (tn : Int) < 18 := by omega
          obtain ⟨c0, c1⟩ := ctT_le b (4 * r + c) tn
          have c0 : 0 ≤ ctF b (4 * r + c) tn := c0
          have c1 : ctF b (4 * r + c) tn ≤ ((4 * r + c : Nat) : Int) := c1
          have c2 : ctF b (4 * r + c) tn ≤ 16 := by omega
          have HS := hide (fun t => ctF_succ ht t)
          have q3 : wr.cell? ⟨w.heap.size, r * 4 + c, none⟩ = some (.int .i64 (tn : Int)) := (congrArg (fun n => wr.cell? ⟨w.heap.size, n, none⟩) (by omega : r * 4 + c = 4 * r + c)).trans ((i0.1 (4 * r + c) (by omega)).trans (by simp only [ht]))
          have q4 : wr.cell? ⟨B2, tn, none⟩ = some (.int .i64 (ctF b (4 * r + c) tn)) := i2.1 _ (by omega)
          have zi2 := i2.2.2
          clear ht hb0 hb1 c1
          go_wp2_with (first | (refine store_int rfl _ _ rfl _ _ _ rfl rfl (by repeat (first | (with_reducible assumption) | (with_reducible apply Has.set) | ((with_reducible apply Has.other); (case hne => (dsimp only; omega))) | (with_reducible apply Has.alloc) | (with_reducible apply Has.drew) | (with_reducible apply Has.drewN))) (by omega) ?_; intro w3 ho3 hn3; have hB' : Below w.heap.size w w3 := below_only (by repeat (first | (with_reducible exact Below.refl _ _) | (with_reducible assumption) | (with_reducible refine below_go ?_ (by with_reducible assumption)) | (with_reducible refine below_new ?_ _) | ((with_reducible refine below_put ?_ ?_ _); rotate_left; (dsimp only; omega)) | (with_reducible refine Below.drew ?_) | (with_reducible refine below_dn ?_ _))) ho3 (by omega); have i0' : Has w3 (w.heap.size) 16 _ := (by first | (with_reducible exact hn3) | exact Has.only (by repeat (first | (with_reducible assumption) | (with_reducible apply Has.set) | ((with_reducible apply Has.other); (case hne => (dsimp only; omega))) | (with_reducible apply Has.alloc) | (with_reducible apply Has.drew) | (with_reducible apply Has.drewN))) ho3 (by omega)); have i1' : Has w3 (w.heap.size + 1) 18 _ := (by first | (with_reducible exact hn3) | exact Has.only (by repeat (first | (with_reducible assumption) | (with_reducible apply Has.set) | ((with_reducible apply Has.other); (case hne => (dsimp only; omega))) | (with_reducible apply Has.alloc) | (with_reducible apply Has.drew) | (with_reducible apply Has.drewN))) ho3 (by omega)); have i2' : Has w3 (B2) 18 _ := (by first | (with_reducible exact hn3) | exact Has.only (by repeat (first | (with_reducible assumption) | (with_reducible apply Has.set) | ((with_reducible apply Has.other); (case hne => (dsimp only; omega))) | (with_reducible apply Has.alloc) | (with_reducible apply Has.drew) | (with_reducible apply Has.drewN))) ho3 (by omega)); clear ho3 hn3; clear hB; have hB := hB'; clear hB'; (try clear fi0); (try clear zi0); (try clear ci0); clear i0; have i0 := i0'; clear i0'; have ci0 := i0.1; have fi0 := i0.2.1; have zi0 := i0.2.2; (try clear fi1); (try clear zi1); (try clear ci1); clear i1; have i1 := i1'; clear i1'; have ci1 := i1.1; have fi1 := i1.2.1; have zi1 := i1.2.2; (try clear fi2); (try clear zi2); (try clear ci2); clear i2; have i2 := i2'; clear i2'; have ci2 := i2.1; have fi2 := i2.2.1; have zi2 := i2.2.2))
          go_roundw
          case rel => exact ⟨c + 1, by omega, by go_num, hB, i0, i1, i2.congr (fun o _ => by rw [← Nat.add_assoc]; exact HS.out o)⟩
          case measure => simp [intOf]; omega

set_option maxRecDepth 100000 in
theorem specCountTiles_any (b : Nat → Int) (w : World) : Calls Try.prog 29 #[.agg #[.int .i64 (b 0), .int .i64 (b 1), .int .i64 (b 2), .int .i64 (b 3), .int .i64 (b 4), .int .i64 (b 5), .int .i64 (b 6), .int .i64 (b 7), .int .i64 (b 8), .int .i64 (b 9), .int .i64 (b 10), .int .i64 (b 11), .int .i64 (b 12), .int .i64 (b 13), .int .i64 (b 14), .int .i64 (b 15)]] w fun e w' => e = .returned (.tuple #[.agg #[.int .i64 (ctX b 0), .int .i64 (ctX b 1), .int .i64 (ctX b 2), .int .i64 (ctX b 3), .int .i64 (ctX b 4), .int .i64 (ctX b 5), .int .i64 (ctX b 6), .int .i64 (ctX b 7), .int .i64 (ctX b 8), .int .i64 (ctX b 9), .int .i64 (ctX b 10), .int .i64 (ctX b 11), .int .i64 (ctX b 12), .int .i64 (ctX b 13), .int .i64 (ctX b 14), .int .i64 (ctX b 15), .int .i64 (ctX b 16), .int .i64 (ctX b 17)], .bool (bdB b)]) ∧ Below w.heap.size w w' := by
  cases hb : bdB b
  · have e0 : ctX b = fun _ => 0 := by funext t; simp [ctX, hb, zr]
    rw [e0]
    exact specCountTiles_no b hb w
  · have e0 : ctX b = ctF b 16 := by funext t; simp [ctX, hb, zr]
    rw [e0]
    exact specCountTiles_yes b hb w

set_option maxHeartbeats 4000000 in
set_option maxRecDepth 100000 in
theorem eqIntA18_same (f : Nat → Int) (w : World) : Calls Try.prog 32 #[.agg #[.int .i64 (f 0), .int .i64 (f 1), .int .i64 (f 2), .int .i64 (f 3), .int .i64 (f 4), .int .i64 (f 5), .int .i64 (f 6), .int .i64 (f 7), .int .i64 (f 8), .int .i64 (f 9), .int .i64 (f 10), .int .i64 (f 11), .int .i64 (f 12), .int .i64 (f 13), .int .i64 (f 14), .int .i64 (f 15), .int .i64 (f 16), .int .i64 (f 17)], .agg #[.int .i64 (f 0), .int .i64 (f 1), .int .i64 (f 2), .int .i64 (f 3), .int .i64 (f 4), .int .i64 (f 5), .int .i64 (f 6), .int .i64 (f 7), .int .i64 (f 8), .int .i64 (f 9), .int .i64 (f 10), .int .i64 (f 11), .int .i64 (f 12), .int .i64 (f 13), .int .i64 (f 14), .int .i64 (f 15), .int .i64 (f 16), .int .i64 (f 17)]] w fun e w' => e = .returned (.bool true) ∧ Below w.heap.size w w' := by
  go_enter Try.func32, Try.ntmps32
  go_upto_region 1 with (fail)
  generalize hW : (w.alloc _).alloc _ = w1
  have hB : Below w.heap.size w w1 := by (rw [← hW]; exact (by repeat (first | (with_reducible exact Below.refl _ _) | (with_reducible assumption) | (with_reducible refine below_go ?_ (by with_reducible assumption)) | (with_reducible refine below_new ?_ _) | ((with_reducible refine below_put ?_ ?_ _); rotate_left; (dsimp only; omega)) | (with_reducible refine Below.drew ?_) | (with_reducible refine below_dn ?_ _))))
  have hsz : Hid (w1.heap.size = w.heap.size + 1 + 1) := hide (by rw [← hW]; simp)
  have i0 : Has w1 (w.heap.size) 18 (fun o => .int .i64 (f o)) := by (rw [← hW]; repeat (first | (refine Has.new ?_ rfl; simp; done) | refine Has.alloc ?_ _))
  have ci0 := i0.1; have fi0 := i0.2.1; have zi0 := i0.2.2
  have i1 : Has w1 (w.heap.size + 1) 18 (fun o => .int .i64 (f o)) := by (rw [← hW]; repeat (first | (refine Has.new ?_ rfl; simp; done) | refine Has.alloc ?_ _))
  have ci1 := i1.1; have fi1 := i1.2.1; have zi1 := i1.2.2
  clear hW
  clear ci0 fi0 zi0 ci1 fi1 zi1 hsz
  go_wp2_with fail
  go_loopw [5] (fun v wr => ∃ k : Nat, k ≤ 18 ∧ v = .int .i64 k ∧ Below w.heap.size w wr ∧ Has wr w.heap.size 18 (fun o => .int .i64 (f o)) ∧ Has wr (w.heap.size + 1) 18 (fun o => .int .i64 (f o))) (fun i _ => 18 - (intOf i).toNat)
  case atStart => exact ⟨0, by omega, rfl, hB, i0, i1⟩
  case round =>
    clear hB i0 i1
    obtain ⟨k, hk, rfl, hB, i0, i1⟩ := hrel
    by_cases h4 : k = 18
    · subst h4
      go_wp2
      go_ret
      exact ⟨rfl, hB⟩
    · have hlt : k < 18 := by omega
      have a1 : (0 : Int) ≤ k := by omega
      have a2 : (k : Int) < 18 := by omega
      have q1 : wr.cell? ⟨w.heap.size, k, none⟩ = some (.int .i64 (f k)) := i0.1 _ hlt
      have q2 : wr.cell? ⟨w.heap.size + 1, k, none⟩ = some (.int .i64 (f k)) := i1.1 _ hlt
      go_wp2_with fail
      go_quiet (fail)
      go_wp2
      go_roundw
      case rel => exact ⟨k + 1, by omega, by go_num, (by repeat (first | (with_reducible exact Below.refl _ _) | (with_reducible assumption) | (with_reducible refine below_go ?_ (by with_reducible assumption)) | (with_reducible refine below_new ?_ _) | ((with_reducible refine below_put ?_ ?_ _); rotate_left; (dsimp only; omega)) | (with_reducible refine Below.drew ?_) | (with_reducible refine below_dn ?_ _))), (by repeat (first | (with_reducible assumption) | (with_reducible apply Has.set) | ((with_reducible apply Has.other); (case hne => (dsimp only; omega))) | (with_reducible apply Has.alloc) | (with_reducible apply Has.drew) | (with_reducible apply Has.drewN))), (by repeat (first | (with_reducible assumption) | (with_reducible apply Has.set) | ((with_reducible apply Has.other); (case hne => (dsimp only; omega))) | (with_reducible apply Has.alloc) | (with_reducible apply Has.drew) | (with_reducible apply Has.drewN)))⟩
      case measure => simp [intOf]; omega

end Go.Proofs.Ytjnmdhnckmmdnaa
