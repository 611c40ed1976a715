/-
  Contract: EqualPairs, the program's.
-/
import Derived.Test.YtjnmdhnckmmdnaaPairs
import Derived.Test.YtjnmdhnckmmdnaaSlide
namespace Go.Proofs.Ytjnmdhnckmmdnaa
open Go.RowKit

theorem results_eqp {x y : Int} (h : x = y) : Ending.returned (.tuple #[.int .i64 x, .bool true]) = .returned (.tuple #[.int .i64 y, .bool true]) := by rw [h]
def prD (b : Nat → Int) (d : Nat) : Int := match d with | 0 => 0 | 1 => prL b 0 4 | _ => prL b 0 4 + prL b 1 4
theorem prD_succ (b : Nat → Int) {d : Nat} (hd : d < 2) : prD b (d + 1) = prD b d + prL b d 4 := by
  rcases (by omega : d = 0 ∨ d = 1) with rfl | rfl
  · simp [prD]
  · rfl
theorem prD_le (b : Nat → Int) {d : Nat} (hd : d ≤ 2) : 0 ≤ prD b d ∧ prD b d ≤ 24 := by
  have h0 := prL_le b 0 4; have h1 := prL_le b 1 4
  rcases (by omega : d = 0 ∨ d = 1 ∨ d = 2) with rfl | rfl | rfl <;> simp only [prD] <;> omega

set_option maxHeartbeats 8000000 in
set_option maxRecDepth 100000 in
theorem equalPairs_any (b : Nat → Int) (w : World) : Calls Try.prog 45 #[.agg #[.int .i64 (b 0), .int .i64 (b 1), .int .i64 (b 2), .int .i64 (b 3), .int .i64 (b 4), .int .i64 (b 5), .int .i64 (b 6), .int .i64 (b 7), .int .i64 (b 8), .int .i64 (b 9), .int .i64 (b 10), .int .i64 (b 11), .int .i64 (b 12), .int .i64 (b 13), .int .i64 (b 14), .int .i64 (b 15)]] w fun e w' => e = .returned (.tuple #[.int .i64 (zr (bdB b) (prS b 4)), .bool (bdB b)]) ∧ Below w.heap.size w w' := by
  cases hb : bdB b
  · simp only [zr_false]
    go_enter Try.func45, Try.ntmps45
    go_upto_region 1 with (fail)
    generalize hW : w.alloc _ = w1
    have hB : Below w.heap.size w w1 := by (rw [← hW]; exact (by repeat (first | (with_reducible exact Below.refl _ _) | (with_reducible assumption) | (with_reducible refine below_go ?_ (by with_reducible assumption)) | (with_reducible refine below_new ?_ _) | ((with_reducible refine below_put ?_ ?_ _); rotate_left; (dsimp only; omega)) | (with_reducible refine Below.drew ?_) | (with_reducible refine below_dn ?_ _))))
    have hsz : Hid (w1.heap.size = w.heap.size + 1) := hide (by rw [← hW]; simp)
    have i0 : Has w1 (w.heap.size) 16 (fun o => .int .i64 (b o)) := by (rw [← hW]; repeat (first | (refine Has.new ?_ rfl; simp; done) | refine Has.alloc ?_ _))
    have ci0 := i0.1; have fi0 := i0.2.1; have zi0 := i0.2.2
    clear hW
    go_wp2_with (first | (go_at_call 91; (with_reducible refine (isBoard_any _ _).mono ?_); rintro e w2 ⟨rfl, hb2⟩; have hB' : Below w.heap.size w w2 := below_go (by repeat (first | (with_reducible exact Below.refl _ _) | (with_reducible assumption) | (with_reducible refine below_go ?_ (by with_reducible assumption)) | (with_reducible refine below_new ?_ _) | ((with_reducible refine below_put ?_ ?_ _); rotate_left; (dsimp only; omega)) | (with_reducible refine Below.drew ?_) | (with_reducible refine below_dn ?_ _))) hb2; have i0' : Has w2 (w.heap.size) 16 _ := Has.call (by repeat (first | (with_reducible assumption) | (with_reducible apply Has.set) | ((with_reducible apply Has.other); (case hne => (dsimp only; omega))) | (with_reducible apply Has.alloc) | (with_reducible apply Has.drew) | (with_reducible apply Has.drewN))) hb2; clear hB hb2; have hB := hB'; clear hB'; (try clear fi0); (try clear zi0); (try clear ci0); clear i0; have i0 := i0'; clear i0'; have ci0 := i0.1; have fi0 := i0.2.1; have zi0 := i0.2.2) | (refine load_Board rfl _ rfl _ _ rfl (by repeat (first | (with_reducible assumption) | (with_reducible apply Has.set) | ((with_reducible apply Has.other); (case hne => (dsimp only; omega))) | (with_reducible apply Has.alloc) | (with_reducible apply Has.drew) | (with_reducible apply Has.drewN))) (by omega) ?_))
    go_ret2
    exact ⟨rfl, (by repeat (first | (with_reducible exact Below.refl _ _) | (with_reducible assumption) | (with_reducible refine below_go ?_ (by with_reducible assumption)) | (with_reducible refine below_new ?_ _) | ((with_reducible refine below_put ?_ ?_ _); rotate_left; (dsimp only; omega)) | (with_reducible refine Below.drew ?_) | (with_reducible refine below_dn ?_ _)))⟩
  · simp only [zr_true]
    go_enter Try.func45, Try.ntmps45
    go_upto_region 1 with (fail)
    generalize hW : w.alloc _ = w1
    have hB : Below w.heap.size w w1 := by (rw [← hW]; exact (by repeat (first | (with_reducible exact Below.refl _ _) | (with_reducible assumption) | (with_reducible refine below_go ?_ (by with_reducible assumption)) | (with_reducible refine below_new ?_ _) | ((with_reducible refine below_put ?_ ?_ _); rotate_left; (dsimp only; omega)) | (with_reducible refine Below.drew ?_) | (with_reducible refine below_dn ?_ _))))
    have hsz : Hid (w1.heap.size = w.heap.size + 1) := hide (by rw [← hW]; simp)
    have i0 : Has w1 (w.heap.size) 16 (fun o => .int .i64 (b o)) := by (rw [← hW]; repeat (first | (refine Has.new ?_ rfl; simp; done) | refine Has.alloc ?_ _))
    have ci0 := i0.1; have fi0 := i0.2.1; have zi0 := i0.2.2
    clear hW
    go_upto_region 5 with (first | (go_at_call 91; (with_reducible refine (isBoard_any _ _).mono ?_); rintro e w2 ⟨rfl, hb2⟩; have hB' : Below w.heap.size w w2 := below_go (by repeat (first | (with_reducible exact Below.refl _ _) | (with_reducible assumption) | (with_reducible refine below_go ?_ (by with_reducible assumption)) | (with_reducible refine below_new ?_ _) | ((with_reducible refine below_put ?_ ?_ _); rotate_left; (dsimp only; omega)) | (with_reducible refine Below.drew ?_) | (with_reducible refine below_dn ?_ _))) hb2; have i0' : Has w2 (w.heap.size) 16 _ := Has.call (by repeat (first | (with_reducible assumption) | (with_reducible apply Has.set) | ((with_reducible apply Has.other); (case hne => (dsimp only; omega))) | (with_reducible apply Has.alloc) | (with_reducible apply Has.drew) | (with_reducible apply Has.drewN))) hb2; clear hB hb2; have hB := hB'; clear hB'; (try clear fi0); (try clear zi0); (try clear ci0); clear i0; have i0 := i0'; clear i0'; have ci0 := i0.1; have fi0 := i0.2.1; have zi0 := i0.2.2) | (refine load_Board rfl _ rfl _ _ rfl (by repeat (first | (with_reducible assumption) | (with_reducible apply Has.set) | ((with_reducible apply Has.other); (case hne => (dsimp only; omega))) | (with_reducible apply Has.alloc) | (with_reducible apply Has.drew) | (with_reducible apply Has.drewN))) (by omega) ?_))
    clear ci0 fi0 zi0 hsz
    go_loopw [4, 12] (fun v4 v12 wr => ∃ d : Nat, d ≤ 2 ∧ v12 = .int .i64 d ∧ v4 = .int .i64 (prD b d) ∧ Below w.heap.size w wr ∧ Has wr w.heap.size 16 (fun o => .int .i64 (b o))) (fun _ i _ => 2 - (intOf i).toNat)
    case atStart => exact ⟨0, by omega, rfl, rfl, hB, i0⟩
    case round =>
      clear hB i0
      obtain ⟨d, hd, rfl, rfl, hB, i0⟩ := hrel
      by_cases h4 : d = 2
      · subst h4
        go_wp2
        go_ret2
        exact ⟨results_eqp (prS_eq b 4).symm, hB⟩
      · have hlt : d < 2 := by omega
        have hd4 : d < 4 := by omega
        have hlti : (d : Int) < 2 := by omega
        have hdr : decide ((d : Int) < 2) = true := decide_eq_true hlti
        obtain ⟨e0, e1⟩ := prD_le b hd
        go_wp2_with fail
        go_loopw [4, 15] (fun v4 v15 wr => ∃ i : Nat, i ≤ 4 ∧ v15 = .int .i64 i ∧ v4 = .int .i64 (prD b d + prL b d i) ∧ Below w.heap.size w wr ∧ Has wr w.heap.size 16 (fun o => .int .i64 (b o))) (fun _ i _ => 4 - (intOf i).toNat)
        case atStart => exact ⟨0, by omega, rfl, by simp [prL], hB, i0⟩
        case round =>
          clear hB i0
          obtain ⟨i, hi, rfl, rfl, hB, i0⟩ := hrel
          by_cases h4 : i = 4
          · subst h4
            go_wp2
            go_roundw
            case rel => exact ⟨d + 1, by omega, by go_num, by rw [prD_succ b hlt], hB, i0⟩
            case measure => simp [intOf]; omega
          · have hlt4 : i < 4 := by omega
            have hlt4i : (i : Int) < 4 := by omega
            have hdr4 : decide ((i : Int) < 4) = true := decide_eq_true hlt4i
            obtain ⟨f0, f1⟩ := prL_le b d i
            have ci0 := i0.1; have fi0 := i0.2.1; have zi0 := i0.2.2
            go_upto_region 11 with (first | (go_at_call 106; (with_reducible refine (line_any _ _ _ hd4 hlt4 _).mono ?_); rintro e w2 ⟨rfl, hb2⟩; have hB' : Below w.heap.size w w2 := below_go (by repeat (first | (with_reducible exact Below.refl _ _) | (with_reducible assumption) | (with_reducible refine below_go ?_ (by with_reducible assumption)) | (with_reducible refine below_new ?_ _) | ((with_reducible refine below_put ?_ ?_ _); rotate_left; (dsimp only; omega)) | (with_reducible refine Below.drew ?_) | (with_reducible refine below_dn ?_ _))) hb2; have i0' : Has w2 (w.heap.size) 16 _ := Has.call (by repeat (first | (with_reducible assumption) | (with_reducible apply Has.set) | ((with_reducible apply Has.other); (case hne => (dsimp only; omega))) | (with_reducible apply Has.alloc) | (with_reducible apply Has.drew) | (with_reducible apply Has.drewN))) hb2; clear hB hb2; have hB := hB'; clear hB'; (try clear fi0); (try clear zi0); (try clear ci0); clear i0; have i0 := i0'; clear i0'; have ci0 := i0.1; have fi0 := i0.2.1; have zi0 := i0.2.2) | (refine load_Board rfl _ rfl _ _ rfl (by repeat (first | (with_reducible assumption) | (with_reducible apply Has.set) | ((with_reducible apply Has.other); (case hne => (dsimp only; omega))) | (with_reducible apply Has.alloc) | (with_reducible apply Has.drew) | (with_reducible apply Has.drewN))) (by omega) ?_))
            have hz3 : w.heap.size < w2.heap.size := zi0
            generalize hW : (World.alloc w2 _) = w1
            have hB' : Below w.heap.size w w1 := by (rw [← hW]; exact (by repeat (first | (with_reducible exact Below.refl _ _) | (with_reducible assumption) | (with_reducible refine below_go ?_ (by with_reducible assumption)) | (with_reducible refine below_new ?_ _) | ((with_reducible refine below_put ?_ ?_ _); rotate_left; (dsimp only; omega)) | (with_reducible refine Below.drew ?_) | (with_reducible refine below_dn ?_ _))))
            have i0' := Has.at hW (B := w.heap.size) (n := 16) (by repeat (first | (with_reducible assumption) | (with_reducible apply Has.set) | ((with_reducible apply Has.other); (case hne => (dsimp only; omega))) | (with_reducible apply Has.alloc) | (with_reducible apply Has.drew) | (with_reducible apply Has.drewN)))
            have k0 := Has.at hW (n := 4) (Has.new' rfl)
            try simp only [World.size_alloc] at k0
            clear hW; clear hB; have hB := hB'; clear hB'; (try clear fi0); (try clear zi0); (try clear ci0); clear i0; have i0 := i0'; clear i0'; have ci0 := i0.1; have fi0 := i0.2.1; have zi0 := i0.2.2; have ck0 := k0.1; have fk0 := k0.2.1; have zk0 := k0.2.2
            generalize hS : w2.heap.size = B4 at *
            clear hS
            have k0 := k0.congr (d := fun o => .int .i64 (lineOf b d i o)) (fun o ho => four_row (lineOf b d i) o ho)
            clear ci0 fi0 zi0 ck0 fk0 zk0
            go_wp2_with fail
            go_loopw [4, 22] (fun v4 v22 wr => ∃ k : Nat, k ≤ 3 ∧ v22 = .int .i64 k ∧ v4 = .int .i64 (prD b d + prL b d i + prT (lineOf b d i) k) ∧ Below w.heap.size w wr ∧ Has wr w.heap.size 16 (fun o => .int .i64 (b o)) ∧ Has wr B4 4 (fun o => .int .i64 (lineOf b d i o))) (fun _ i _ => 3 - (intOf i).toNat)
            case atStart => exact ⟨0, by omega, rfl, by simp [prT], hB, i0, k0⟩
            case round =>
              clear hB i0 k0
              obtain ⟨k, hk, rfl, rfl, hB, i0, k0⟩ := hrel
              by_cases h4 : k = 3
              · subst h4
                go_wp2
                go_roundw
                case rel => exact ⟨i + 1, by omega, by go_num, by rw [prL, Int.add_assoc], hB, i0⟩
                case measure => simp [intOf]; omega
              · have hlt3 : k < 3 := by omega
                obtain ⟨p0, p1⟩ := prT_le (lineOf b d i) k
                have a1 : (0 : Int) ≤ k := by omega
                have a2 : (k : Int) < 3 := by omega
                have s1 : IntKind.i64.wrap ((k : Int) + 1) = (k : Int) + 1 := IntWalk.i64_in _ (by omega)
                have s2 : ((k : Int) + 1).toNat = k + 1 := by omega
                have q1 : wr.cell? ⟨B4, k, none⟩ = some (.int .i64 (lineOf b d i k)) := k0.1 _ (by omega)
                have q2 : wr.cell? ⟨B4, k + 1, none⟩ = some (.int .i64 (lineOf b d i (k + 1))) := k0.1 _ (by omega)
                by_cases he : lineOf b d i k = lineOf b d i (k + 1)
                · have he' : (lineOf b d i k == lineOf b d i (k + 1)) = true := by simpa using he
                  have HE := hide he
                  clear he
                  cases hi : inB (lineOf b d i k) 1 16
                  · have HI := hide hi
                    go_wp2_with fail
                    go_quiet ((go_at_call 103; exact Calls.quiet_of_eq (in_any _ _ _ _)))
                    clear s1 s2
                    go_wp2
                    go_roundw
                    case rel => exact ⟨k + 1, by omega, by go_num, by rw [prT_out HI.out], (by repeat (first | (with_reducible exact Below.refl _ _) | (with_reducible assumption) | (with_reducible refine below_go ?_ (by with_reducible assumption)) | (with_reducible refine below_new ?_ _) | ((with_reducible refine below_put ?_ ?_ _); rotate_left; (dsimp only; omega)) | (with_reducible refine Below.drew ?_) | (with_reducible refine below_dn ?_ _))), (by repeat (first | (with_reducible assumption) | (with_reducible apply Has.set) | ((with_reducible apply Has.other); (case hne => (dsimp only; omega))) | (with_reducible apply Has.alloc) | (with_reducible apply Has.drew) | (with_reducible apply Has.drewN))), (by repeat (first | (with_reducible assumption) | (with_reducible apply Has.set) | ((with_reducible apply Has.other); (case hne => (dsimp only; omega))) | (with_reducible apply Has.alloc) | (with_reducible apply Has.drew) | (with_reducible apply Has.drewN)))⟩
                    case measure => simp [intOf]; omega
                  · have HI := hide hi
                    go_wp2_with fail
                    go_quiet ((go_at_call 103; exact Calls.quiet_of_eq (in_any _ _ _ _)))
                    clear s1 s2
                    go_wp2
                    go_roundw
                    case rel => exact ⟨k + 1, by omega, by go_num, by rw [prT_in HE.out HI.out, Int.add_assoc _ _ 1], (by repeat (first | (with_reducible exact Below.refl _ _) | (with_reducible assumption) | (with_reducible refine below_go ?_ (by with_reducible assumption)) | (with_reducible refine below_new ?_ _) | ((with_reducible refine below_put ?_ ?_ _); rotate_left; (dsimp only; omega)) | (with_reducible refine Below.drew ?_) | (with_reducible refine below_dn ?_ _))), (by repeat (first | (with_reducible assumption) | (with_reducible apply Has.set) | ((with_reducible apply Has.other); (case hne => (dsimp only; omega))) | (with_reducible apply Has.alloc) | (with_reducible apply Has.drew) | (with_reducible apply Has.drewN))), (by repeat (first | (with_reducible assumption) | (with_reducible apply Has.set) | ((with_reducible apply Has.other); (case hne => (dsimp only; omega))) | (with_reducible apply Has.alloc) | (with_reducible apply Has.drew) | (with_reducible apply Has.drewN)))⟩
                    case measure => simp [intOf]; omega
                · have he' : (lineOf b d i k == lineOf b d i (k + 1)) = false := by simpa using he
                  have HE := hide he
                  clear he
                  go_wp2_with fail
                  go_quiet (fail)
                  clear s1 s2
                  go_wp2
                  go_roundw
                  case rel => exact ⟨k + 1, by omega, by go_num, by rw [prT_ne HE.out], (by repeat (first | (with_reducible exact Below.refl _ _) | (with_reducible assumption) | (with_reducible refine below_go ?_ (by with_reducible assumption)) | (with_reducible refine below_new ?_ _) | ((with_reducible refine below_put ?_ ?_ _); rotate_left; (dsimp only; omega)) | (with_reducible refine Below.drew ?_) | (with_reducible refine below_dn ?_ _))), (by repeat (first | (with_reducible assumption) | (with_reducible apply Has.set) | ((with_reducible apply Has.other); (case hne => (dsimp only; omega))) | (with_reducible apply Has.alloc) | (with_reducible apply Has.drew) | (with_reducible apply Has.drewN))), (by repeat (first | (with_reducible assumption) | (with_reducible apply Has.set) | ((with_reducible apply Has.other); (case hne => (dsimp only; omega))) | (with_reducible apply Has.alloc) | (with_reducible apply Has.drew) | (with_reducible apply Has.drewN)))⟩
                  case measure => simp [intOf]; omega

end Go.Proofs.Ytjnmdhnckmmdnaa
