/-
  Contract: CommutingPairs, the program's.
-/
import Derived.Test.YtjnmdhnckmmdnaaCpWords
import Derived.Test.YtjnmdhnckmmdnaaComm
namespace Go.Proofs.Ytjnmdhnckmmdnaa
open Go.RowKit

set_option maxHeartbeats 16000000 in
set_option maxRecDepth 100000 in
theorem commutingPairs_own (b : Nat → Int) (w : World) : Calls Try.prog 75 #[.agg #[.int .i64 (b 0), .int .i64 (b 1), .int .i64 (b 2), .int .i64 (b 3), .int .i64 (b 4), .int .i64 (b 5), .int .i64 (b 6), .int .i64 (b 7), .int .i64 (b 8), .int .i64 (b 9), .int .i64 (b 10), .int .i64 (b 11), .int .i64 (b 12), .int .i64 (b 13), .int .i64 (b 14), .int .i64 (b 15)]] w fun e w' => ∃ A cap, e = .returned (.tuple #[.slice A (cpO b).length cap, .bool (bdB b)]) ∧ Sl w' w.heap.size A ((cpO b).length * 2) (fI (plF (cpO b))) ∧ Below w.heap.size w w' := by
  cases hb : bdB b
  · have e0 : cpO b = [] := by simp [cpO, hb]
    rw [e0]
    clear e0
    go_enter Try.func75, Try.ntmps75
    go_upto_region 1 with (fail)
    generalize hW : w.alloc _ = w1
    have hB : Below w.heap.size w w1 := by (rw [← hW]; exact (by repeat (first | (with_reducible exact Below.refl _ _) | (with_reducible assumption) | (with_reducible refine below_go ?_ (by with_reducible assumption)) | (with_reducible refine below_new ?_ _) | ((with_reducible refine below_put ?_ ?_ _); rotate_left; (dsimp only; omega)) | (with_reducible refine Below.drew ?_) | (with_reducible refine below_dn ?_ _))))
    have hsz : Hid (w1.heap.size = w.heap.size + 1) := hide (by rw [← hW]; simp)
    have i0 : Has w1 (w.heap.size) 16 (fun o => .int .i64 (b o)) := by (rw [← hW]; repeat (first | (refine Has.new ?_ rfl; simp; done) | refine Has.alloc ?_ _))
    have ci0 := i0.1; have fi0 := i0.2.1; have zi0 := i0.2.2
    clear hW
    go_wp2_with (first | (go_at_call 91; (with_reducible refine (Calls.bool_as (isBoard_any b _) hb).mono ?_); rintro e w2 ⟨rfl, hb2⟩; have hB' : Below w.heap.size w w2 := below_go (by repeat (first | (with_reducible exact Below.refl _ _) | (with_reducible assumption) | (with_reducible refine below_go ?_ (by with_reducible assumption)) | (with_reducible refine below_new ?_ _) | ((with_reducible refine below_put ?_ ?_ _); rotate_left; (dsimp only; omega)) | (with_reducible refine Below.drew ?_) | (with_reducible refine below_dn ?_ _))) hb2; have i0' : Has w2 (w.heap.size) 16 _ := Has.call (by repeat (first | (with_reducible assumption) | (with_reducible apply Has.set) | ((with_reducible apply Has.other); (case hne => (dsimp only; omega))) | (with_reducible apply Has.alloc) | (with_reducible apply Has.drew) | (with_reducible apply Has.drewN))) hb2; clear hB hb2; have hB := hB'; clear hB'; (try clear fi0); (try clear zi0); (try clear ci0); clear i0; have i0 := i0'; clear i0'; have ci0 := i0.1; have fi0 := i0.2.1; have zi0 := i0.2.2) | (refine load_Board rfl _ rfl _ _ rfl (by repeat (first | (with_reducible assumption) | (with_reducible apply Has.set) | ((with_reducible apply Has.other); (case hne => (dsimp only; omega))) | (with_reducible apply Has.alloc) | (with_reducible apply Has.drew) | (with_reducible apply Has.drewN))) (by omega) ?_))
    go_ret2
    exact ⟨_, _, rfl, sl_zero _ _ _ _, (by repeat (first | (with_reducible exact Below.refl _ _) | (with_reducible assumption) | (with_reducible refine below_go ?_ (by with_reducible assumption)) | (with_reducible refine below_new ?_ _) | ((with_reducible refine below_put ?_ ?_ _); rotate_left; (dsimp only; omega)) | (with_reducible refine Below.drew ?_) | (with_reducible refine below_dn ?_ _)))⟩
  · have e0 := hide (show cpO b = cpL b 16 from if_pos hb)
    rw [e0.out]
    obtain ⟨t0, hi0, hz0, hz1, hz2⟩ := info_parts info_A2
    have HB := hide (bdB_in hb)
    go_enter Try.func75, Try.ntmps75
    go_upto_region 1 with (fail)
    generalize hW : w.alloc _ = w1
    have hB : Below w.heap.size w w1 := by (rw [← hW]; exact (by repeat (first | (with_reducible exact Below.refl _ _) | (with_reducible assumption) | (with_reducible refine below_go ?_ (by with_reducible assumption)) | (with_reducible refine below_new ?_ _) | ((with_reducible refine below_put ?_ ?_ _); rotate_left; (dsimp only; omega)) | (with_reducible refine Below.drew ?_) | (with_reducible refine below_dn ?_ _))))
    have hsz : Hid (w1.heap.size = w.heap.size + 1) := hide (by rw [← hW]; simp)
    have i0 : Has w1 (w.heap.size) 16 (fun o => .int .i64 (b o)) := by (rw [← hW]; repeat (first | (refine Has.new ?_ rfl; simp; done) | refine Has.alloc ?_ _))
    have ci0 := i0.1; have fi0 := i0.2.1; have zi0 := i0.2.2
    clear hW
    go_upto_region 4 with (first | (go_at_call 91; (with_reducible refine (Calls.bool_as (isBoard_any b _) hb).mono ?_); rintro e w2 ⟨rfl, hb2⟩; have hB' : Below w.heap.size w w2 := below_go (by repeat (first | (with_reducible exact Below.refl _ _) | (with_reducible assumption) | (with_reducible refine below_go ?_ (by with_reducible assumption)) | (with_reducible refine below_new ?_ _) | ((with_reducible refine below_put ?_ ?_ _); rotate_left; (dsimp only; omega)) | (with_reducible refine Below.drew ?_) | (with_reducible refine below_dn ?_ _))) hb2; have i0' : Has w2 (w.heap.size) 16 _ := Has.call (by repeat (first | (with_reducible assumption) | (with_reducible apply Has.set) | ((with_reducible apply Has.other); (case hne => (dsimp only; omega))) | (with_reducible apply Has.alloc) | (with_reducible apply Has.drew) | (with_reducible apply Has.drewN))) hb2; clear hB hb2; have hB := hB'; clear hB'; (try clear fi0); (try clear zi0); (try clear ci0); clear i0; have i0 := i0'; clear i0'; have ci0 := i0.1; have fi0 := i0.2.1; have zi0 := i0.2.2) | (refine load_Board rfl _ rfl _ _ rfl (by repeat (first | (with_reducible assumption) | (with_reducible apply Has.set) | ((with_reducible apply Has.other); (case hne => (dsimp only; omega))) | (with_reducible apply Has.alloc) | (with_reducible apply Has.drew) | (with_reducible apply Has.drewN))) (by omega) ?_))
    have hz1' : w.heap.size < w2.heap.size := zi0
    go_wp2_with fail
    generalize hW : (World.alloc w2 _) = w1
    have hB' : Below w.heap.size w w1 := by (rw [← hW]; exact (by repeat (first | (with_reducible exact Below.refl _ _) | (with_reducible assumption) | (with_reducible refine below_go ?_ (by with_reducible assumption)) | (with_reducible refine below_new ?_ _) | ((with_reducible refine below_put ?_ ?_ _); rotate_left; (dsimp only; omega)) | (with_reducible refine Below.drew ?_) | (with_reducible refine below_dn ?_ _))))
    have i0' := Has.at hW (B := w.heap.size) (n := 16) (by repeat (first | (with_reducible assumption) | (with_reducible apply Has.set) | ((with_reducible apply Has.other); (case hne => (dsimp only; omega))) | (with_reducible apply Has.alloc) | (with_reducible apply Has.drew) | (with_reducible apply Has.drewN)))
    have O0 := own_made0 (size := 2) (base := w.heap.size + 1) hW (by omega)
    clear hW; clear hB; have hB := hB'; clear hB'; (try clear fi0); (try clear zi0); (try clear ci0); clear i0; have i0 := i0'; clear i0'; have ci0 := i0.1; have fi0 := i0.2.1; have zi0 := i0.2.2
    generalize hS : w2.heap.size = B9 at *
    clear hS
    clear ci0 fi0 zi0 hsz
    go_loopw [4, 11] (fun v i wr => ∃ d : Nat, d ≤ 4 ∧ i = .int .i64 d ∧ wr.ownsRow (w.heap.size + 1) 39 2 v (cpL b (4 * d)).length (ints (plF (cpL b (4 * d)))) ∧ Below w.heap.size w wr ∧ Has wr w.heap.size 16 (fun o => .int .i64 (b o))) (fun _ i _ => 4 - (intOf i).toNat)
    case atStart => exact ⟨0, by omega, rfl, O0, hB, i0⟩
    case round =>
      clear hB i0 O0
      rename_i v3 _
      obtain ⟨d, hd4, rfl, hown, hB, i0⟩ := hrel
      by_cases h4 : d = 4
      · subst h4
        obtain ⟨A, cap, rfl, hS⟩ := cells_sl (own_base hown (Nat.le_succ _))
        go_wp2
        go_ret2
        exact ⟨_, _, rfl, hS, hB⟩
      · have hd : d < 4 := by omega
        have hdi : (d : Int) < 4 := by omega
        have d0 : (0 : Int) ≤ d := by omega
        have hdr : decide ((d : Int) < 4) = true := decide_eq_true hdi
        have hsk := cpL_skip (b := b) hd (d + 1) (Nat.le_refl _)
        rw [← hsk] at hown
        clear hsk
        go_wp2_with fail
        go_loopw [4, 6] (fun v i wr => ∃ e : Nat, d < e ∧ e ≤ 4 ∧ i = .int .i64 e ∧ wr.ownsRow (w.heap.size + 1) 39 2 v (cpL b (4 * d + e)).length (ints (plF (cpL b (4 * d + e)))) ∧ Below w.heap.size w wr ∧ Has wr w.heap.size 16 (fun o => .int .i64 (b o))) (fun _ i _ => 4 - (intOf i).toNat)
        case atStart => exact ⟨d + 1, by omega, by omega, by go_num, hown, hB, i0⟩
        case round =>
          clear hB i0 hown
          rename_i v3 _
          obtain ⟨e, hde, he4, rfl, hown, hB, i0⟩ := hrel
          by_cases h4 : e = 4
          · subst h4
            go_wp2
            go_roundw
            case rel => exact ⟨d + 1, by omega, by go_num, by rw [Nat.mul_succ]; exact hown, hB, i0⟩
            case measure => simp [intOf]; omega
          · have he : e < 4 := by omega
            have hei : (e : Int) < 4 := by omega
            have e00 : (0 : Int) ≤ e := by omega
            have hlen := cpL_len b (4 * d + e)
            have ci0 := i0.1; have zi0 := i0.2.2
            cases hc : cmD b d e
            · have HY := hide (cpL_no he hc)
              have hq : ∀ w, (binOp .eql 34 (.agg #[.int .i64 ((slB (slB b d) e) 0), .int .i64 ((slB (slB b d) e) 1), .int .i64 ((slB (slB b d) e) 2), .int .i64 ((slB (slB b d) e) 3), .int .i64 ((slB (slB b d) e) 4), .int .i64 ((slB (slB b d) e) 5), .int .i64 ((slB (slB b d) e) 6), .int .i64 ((slB (slB b d) e) 7), .int .i64 ((slB (slB b d) e) 8), .int .i64 ((slB (slB b d) e) 9), .int .i64 ((slB (slB b d) e) 10), .int .i64 ((slB (slB b d) e) 11), .int .i64 ((slB (slB b d) e) 12), .int .i64 ((slB (slB b d) e) 13), .int .i64 ((slB (slB b d) e) 14), .int .i64 ((slB (slB b d) e) 15)]) (.agg #[.int .i64 ((slB (slB b e) d) 0), .int .i64 ((slB (slB b e) d) 1), .int .i64 ((slB (slB b e) d) 2), .int .i64 ((slB (slB b e) d) 3), .int .i64 ((slB (slB b e) d) 4), .int .i64 ((slB (slB b e) d) 5), .int .i64 ((slB (slB b e) d) 6), .int .i64 ((slB (slB b e) d) 7), .int .i64 ((slB (slB b e) d) 8), .int .i64 ((slB (slB b e) d) 9), .int .i64 ((slB (slB b e) d) 10), .int .i64 ((slB (slB b e) d) 11), .int .i64 ((slB (slB b e) d) 12), .int .i64 ((slB (slB b e) d) 13), .int .i64 ((slB (slB b e) d) 14), .int .i64 ((slB (slB b e) d) 15)])).run Try.prog w = .ok (.bool false) w := fun w => by rw [run_eql_Board]; exact congrArg (fun x => Result.ok (Value.bool x) w) hc
              clear hc
              go_wp2_with fail
              go_region_held3 (fun w' => ∀ o, o < 16 → w'.cell? ⟨w.heap.size, o, none⟩ = some (.int .i64 (b o))) (first | exact i0.1 | exact (Has.drew i0).1 | exact (Has.alloc i0 _).1 | exact (Has.drew (Has.alloc i0 _)).1 | exact (Has.alloc (Has.alloc i0 _) _).1 | exact (Has.drew (Has.alloc (Has.alloc i0 _) _)).1)
                (first | (go_at_call 121; (with_reducible refine (slides2 b HB.out d e hd he _ _ _ ?_).mono ?_); (focus (first | exact jde | exact Has.drew (has_two (by simp)) | exact Has.drew (Has.alloc (has_two (by simp)) _) | exact has_two (by simp) | exact Has.alloc (has_two (by simp)) _)); rintro r w2 ⟨rfl, hb2⟩; (first | (have jed' := Has.call jed hb2; clear jed; have jed := jed'; clear jed') | have jed := Has.call (Has.drew (has_two (x := Value.int .i64 (e : Int)) (y := Value.int .i64 (d : Int)) rfl)) hb2 | have jed := Has.call (Has.drew (Has.alloc (has_two (x := Value.int .i64 (e : Int)) (y := Value.int .i64 (d : Int)) rfl) _)) hb2 | skip); (try simp only [World.size_alloc] at jed); have hB' : Below w.heap.size w w2 := below_go ((by repeat (first | (with_reducible exact Below.refl _ _) | (with_reducible assumption) | (with_reducible refine below_go ?_ (by with_reducible assumption)) | (with_reducible refine below_new ?_ _) | ((with_reducible refine below_put ?_ ?_ _); rotate_left; (dsimp only; omega)) | (with_reducible refine Below.drew ?_) | (with_reducible refine below_dn ?_ _)))) hb2; have i0' : Has w2 (w.heap.size) 16 _ := Has.call ((by repeat (first | (with_reducible assumption) | (with_reducible apply Has.set) | ((with_reducible apply Has.other); (case hne => (dsimp only; omega))) | (with_reducible apply Has.alloc) | (with_reducible apply Has.drew) | (with_reducible apply Has.drewN)))) hb2; (first | have hown' := own_call (own_drewT ((hown.alloc _).alloc _)) hb2 | have hown' := own_call (own_drewT (hown.alloc _)) hb2 | have hown' := own_call ((hown.alloc _).alloc _) hb2 | have hown' := own_call (hown.alloc _) hb2 | have hown' := own_call hown hb2); clear hown; have hown := hown'; clear hown'; clear hB hb2; have hB := hB'; clear hB'; (try clear ci0); clear i0; have i0 := i0'; clear i0'; have ci0 := i0.1) | (go_at_call 121; (with_reducible refine (slides2 b HB.out e d he hd _ _ _ ?_).mono ?_); (focus (first | exact jed | exact Has.drew (has_two (by simp)) | exact Has.drew (Has.alloc (has_two (by simp)) _) | exact has_two (by simp) | exact Has.alloc (has_two (by simp)) _)); rintro r w2 ⟨rfl, hb2⟩; (first | (have jde' := Has.call jde hb2; clear jde; have jde := jde'; clear jde') | have jde := Has.call (Has.drew (has_two (x := Value.int .i64 (d : Int)) (y := Value.int .i64 (e : Int)) rfl)) hb2 | have jde := Has.call (Has.drew (Has.alloc (has_two (x := Value.int .i64 (d : Int)) (y := Value.int .i64 (e : Int)) rfl) _)) hb2 | skip); (try simp only [World.size_alloc] at jde); have hB' : Below w.heap.size w w2 := below_go ((by repeat (first | (with_reducible exact Below.refl _ _) | (with_reducible assumption) | (with_reducible refine below_go ?_ (by with_reducible assumption)) | (with_reducible refine below_new ?_ _) | ((with_reducible refine below_put ?_ ?_ _); rotate_left; (dsimp only; omega)) | (with_reducible refine Below.drew ?_) | (with_reducible refine below_dn ?_ _)))) hb2; have i0' : Has w2 (w.heap.size) 16 _ := Has.call ((by repeat (first | (with_reducible assumption) | (with_reducible apply Has.set) | ((with_reducible apply Has.other); (case hne => (dsimp only; omega))) | (with_reducible apply Has.alloc) | (with_reducible apply Has.drew) | (with_reducible apply Has.drewN)))) hb2; (first | have hown' := own_call (own_drewT ((hown.alloc _).alloc _)) hb2 | have hown' := own_call (own_drewT (hown.alloc _)) hb2 | have hown' := own_call ((hown.alloc _).alloc _) hb2 | have hown' := own_call (hown.alloc _) hb2 | have hown' := own_call hown hb2); clear hown; have hown := hown'; clear hown'; clear hB hb2; have hB := hB'; clear hB'; (try clear ci0); clear i0; have i0 := i0'; clear i0'; have ci0 := i0.1) | fail)
              all_goals
                go_wp2
                go_roundw
                case rel => exact ⟨e + 1, by omega, by omega, by go_num, by rw [HY.out]; exact hown, hB, i0⟩
                case measure => simp [intOf]; omega
            · have HY := hide (cpL_yes he hde hc)
              have hq : ∀ w, (binOp .eql 34 (.agg #[.int .i64 ((slB (slB b d) e) 0), .int .i64 ((slB (slB b d) e) 1), .int .i64 ((slB (slB b d) e) 2), .int .i64 ((slB (slB b d) e) 3), .int .i64 ((slB (slB b d) e) 4), .int .i64 ((slB (slB b d) e) 5), .int .i64 ((slB (slB b d) e) 6), .int .i64 ((slB (slB b d) e) 7), .int .i64 ((slB (slB b d) e) 8), .int .i64 ((slB (slB b d) e) 9), .int .i64 ((slB (slB b d) e) 10), .int .i64 ((slB (slB b d) e) 11), .int .i64 ((slB (slB b d) e) 12), .int .i64 ((slB (slB b d) e) 13), .int .i64 ((slB (slB b d) e) 14), .int .i64 ((slB (slB b d) e) 15)]) (.agg #[.int .i64 ((slB (slB b e) d) 0), .int .i64 ((slB (slB b e) d) 1), .int .i64 ((slB (slB b e) d) 2), .int .i64 ((slB (slB b e) d) 3), .int .i64 ((slB (slB b e) d) 4), .int .i64 ((slB (slB b e) d) 5), .int .i64 ((slB (slB b e) d) 6), .int .i64 ((slB (slB b e) d) 7), .int .i64 ((slB (slB b e) d) 8), .int .i64 ((slB (slB b e) d) 9), .int .i64 ((slB (slB b e) d) 10), .int .i64 ((slB (slB b e) d) 11), .int .i64 ((slB (slB b e) d) 12), .int .i64 ((slB (slB b e) d) 13), .int .i64 ((slB (slB b e) d) 14), .int .i64 ((slB (slB b e) d) 15)])).run Try.prog w = .ok (.bool true) w := fun w => by rw [run_eql_Board]; exact congrArg (fun x => Result.ok (Value.bool x) w) hc
              clear hc
              go_wp2_with fail
              go_region_held3 (fun w' => ∀ o, o < 16 → w'.cell? ⟨w.heap.size, o, none⟩ = some (.int .i64 (b o))) (first | exact i0.1 | exact (Has.drew i0).1 | exact (Has.alloc i0 _).1 | exact (Has.drew (Has.alloc i0 _)).1 | exact (Has.alloc (Has.alloc i0 _) _).1 | exact (Has.drew (Has.alloc (Has.alloc i0 _) _)).1)
                (first | (go_at_call 121; (with_reducible refine (slides2 b HB.out d e hd he _ _ _ ?_).mono ?_); (focus (first | exact jde | exact Has.drew (has_two (by simp)) | exact Has.drew (Has.alloc (has_two (by simp)) _) | exact has_two (by simp) | exact Has.alloc (has_two (by simp)) _)); rintro r w2 ⟨rfl, hb2⟩; (first | (have jed' := Has.call jed hb2; clear jed; have jed := jed'; clear jed') | have jed := Has.call (Has.drew (has_two (x := Value.int .i64 (e : Int)) (y := Value.int .i64 (d : Int)) rfl)) hb2 | have jed := Has.call (Has.drew (Has.alloc (has_two (x := Value.int .i64 (e : Int)) (y := Value.int .i64 (d : Int)) rfl) _)) hb2 | skip); (try simp only [World.size_alloc] at jed); have hB' : Below w.heap.size w w2 := below_go ((by repeat (first | (with_reducible exact Below.refl _ _) | (with_reducible assumption) | (with_reducible refine below_go ?_ (by with_reducible assumption)) | (with_reducible refine below_new ?_ _) | ((with_reducible refine below_put ?_ ?_ _); rotate_left; (dsimp only; omega)) | (with_reducible refine Below.drew ?_) | (with_reducible refine below_dn ?_ _)))) hb2; have i0' : Has w2 (w.heap.size) 16 _ := Has.call ((by repeat (first | (with_reducible assumption) | (with_reducible apply Has.set) | ((with_reducible apply Has.other); (case hne => (dsimp only; omega))) | (with_reducible apply Has.alloc) | (with_reducible apply Has.drew) | (with_reducible apply Has.drewN)))) hb2; (first | have hown' := own_call (own_drewT ((hown.alloc _).alloc _)) hb2 | have hown' := own_call (own_drewT (hown.alloc _)) hb2 | have hown' := own_call ((hown.alloc _).alloc _) hb2 | have hown' := own_call (hown.alloc _) hb2 | have hown' := own_call hown hb2); clear hown; have hown := hown'; clear hown'; clear hB hb2; have hB := hB'; clear hB'; (try clear ci0); clear i0; have i0 := i0'; clear i0'; have ci0 := i0.1) | (go_at_call 121; (with_reducible refine (slides2 b HB.out e d he hd _ _ _ ?_).mono ?_); (focus (first | exact jed | exact Has.drew (has_two (by simp)) | exact Has.drew (Has.alloc (has_two (by simp)) _) | exact has_two (by simp) | exact Has.alloc (has_two (by simp)) _)); rintro r w2 ⟨rfl, hb2⟩; (first | (have jde' := Has.call jde hb2; clear jde; have jde := jde'; clear jde') | have jde := Has.call (Has.drew (has_two (x := Value.int .i64 (d : Int)) (y := Value.int .i64 (e : Int)) rfl)) hb2 | have jde := Has.call (Has.drew (Has.alloc (has_two (x := Value.int .i64 (d : Int)) (y := Value.int .i64 (e : Int)) rfl) _)) hb2 | skip); (try simp only [World.size_alloc] at jde); have hB' : Below w.heap.size w w2 := below_go ((by repeat (first | (with_reducible exact Below.refl _ _) | (with_reducible assumption) | (with_reducible refine below_go ?_ (by with_reducible assumption)) | (with_reducible refine below_new ?_ _) | ((with_reducible refine below_put ?_ ?_ _); rotate_left; (dsimp only; omega)) | (with_reducible refine Below.drew ?_) | (with_reducible refine below_dn ?_ _)))) hb2; have i0' : Has w2 (w.heap.size) 16 _ := Has.call ((by repeat (first | (with_reducible assumption) | (with_reducible apply Has.set) | ((with_reducible apply Has.other); (case hne => (dsimp only; omega))) | (with_reducible apply Has.alloc) | (with_reducible apply Has.drew) | (with_reducible apply Has.drewN)))) hb2; (first | have hown' := own_call (own_drewT ((hown.alloc _).alloc _)) hb2 | have hown' := own_call (own_drewT (hown.alloc _)) hb2 | have hown' := own_call ((hown.alloc _).alloc _) hb2 | have hown' := own_call (hown.alloc _) hb2 | have hown' := own_call hown hb2); clear hown; have hown := hown'; clear hown'; clear hB hb2; have hB := hB'; clear hB'; (try clear ci0); clear i0; have i0 := i0'; clear i0'; have ci0 := i0.1) | fail)
              all_goals
                go_wp2_with (at_builtin; refine wpList_append_own _ rfl (.tmp 31) (.tmp 35) 53 rfl (w.heap.size + 1) 39 t0 (.agg #[.int .i64 0, .int .i64 0]) 2 16 Try.underlying53 hi0 hz0 hz1 hz2 rfl (by decide) _ (cpL b (4 * d + e)).length (ints (plF (cpL b (4 * d + e)))) rfl (hown.alloc _) ⟨w2.heap.size, 0, none⟩ 1 1 [.int .i64 (d : Int), .int .i64 (e : Int)] rfl rfl ?c1 ?c2 ?c3 ?c4 ?c5 ?_)
                case c1 => exact two_cells
                case c2 => intro u hu; simp at hu; rcases hu with rfl | rfl <;> rfl
                case c3 => unfold maxLen; omega
                case c4 => omega
                case c5 => have := hB.size; have := i0.2.2; simp; omega
                intro v' w3 hown' hgrow _
                have hB1 : Below w.heap.size w w3 := (below_new hB _).grown hgrow (by have := hB.size; simp; omega) (fun q hq => Nat.le_of_succ_le (hown.lt q hq).1)
                have j1 := (i0.alloc _).grown hgrow (own_at_ne hown (Nat.lt_succ_self _))
                rw [← cp_ints he HY.out] at hown'
                have hl : (cpL b (4 * d + e)).length + 1 = (cpL b (4 * d + (e + 1))).length := by rw [HY.out]; simp
                rw [hl] at hown'
                clear hown hB hgrow i0 hl
                go_wp2
                go_roundw
                case rel => exact ⟨e + 1, by omega, by omega, by go_num, hown', hB1, j1⟩
                case measure => simp [intOf]; omega

end Go.Proofs.Ytjnmdhnckmmdnaa
