/-
  Contracts: ParseBoard, the reference's.
-/
import Derived.Test.YtmjehagmgifchaaPbWords
import Derived.Test.YtmjehagmgifchaaTkWords
import Derived.Test.YtmjehagmgifchaaTx
namespace Go.Proofs.Ytmjehagmgifchaa
open Go.RowKit

set_option maxHeartbeats 4000000 in
set_option maxRecDepth 100000 in
theorem l2Sign_any (c : UInt8) (w : World) : Calls Try.prog 144 #[.int .u8 (c.toNat : Int)] w fun e w' => e = .returned (.int .i64 (sgn c)) ∧ w = w' := by
  go_enter Try.func144, Try.ntmps144
  go_wp2_with fail
  go_loop [3] (fun i => ∃ t : Nat, t ≤ 18 ∧ i = .int .i64 t ∧ Hid (∀ j, j < t → ltr j ≠ c)) (fun i => 18 - (intOf i).toNat)
  case atStart => exact ⟨0, by omega, rfl, hide (fun j hj => absurd hj (Nat.not_lt_zero _))⟩
  case round =>
    obtain ⟨t, ht, rfl, hall⟩ := hrel
    by_cases hlt : t < 18
    · have a1 : (t : Int) ≤ 17 := by omega
      have a0 : (0 : Int) ≤ t := by omega
      have hy := indexT t hlt
      by_cases he : ltr t = c
      · have HR := hide (show sgn c = (t : Int) by rw [← he]; exact sgn_found t hlt)
        have e1 : (((ltr t).toNat : Int) == (c.toNat : Int)) = true := by rw [he]; simp
        clear he
        go_wp2
        go_ret
        exact ⟨ret_int HR.out.symm, rfl⟩
      · have e1 : (((ltr t).toNat : Int) == (c.toNat : Int)) = false := by
          simp only [beq_eq_false_iff_ne, ne_eq]
          intro h
          exact he (UInt8.toNat_inj.1 (by omega))
        have HE := hide he
        clear he
        go_wp2
        go_round
        case rel => exact ⟨t + 1, by omega, by go_num, hide (fun j hj => by
          rcases (by omega : j < t ∨ j = t) with h | rfl
          · exact hall.out j h
          · exact HE.out)⟩
        case measure => simp [intOf]; omega
    · obtain rfl : t = 18 := by omega
      have HR := hide (sgn_none fun j hj => hall.out j hj)
      go_wp2
      go_ret
      exact ⟨ret_int HR.out.symm, rfl⟩

theorem pbC_at (s : ByteArray) (k : Nat) (h : k < s.size) : pbC s k = s[k] := by
  have h2 : k < s.data.toList.length := by simpa using h
  rw [pbC, List.getD, List.getElem?_eq_getElem h2]; rfl
theorem step_all {s : ByteArray} {k : Nat} (h : ∀ j, j < k → pbStep s j = true) (hk : pbStep s k = true) : ∀ j, j < k + 1 → pbStep s j = true := fun j hj => by
  rcases (by omega : j < k ∨ j = k) with h1 | rfl
  · exact h j h1
  · exact hk
theorem pb_ret_long {s : ByteArray} (h : s.size ≠ 19) : Ending.returned (.tuple #[.agg #[.int .i64 ((fun _ => (0 : Int)) 0), .int .i64 ((fun _ => (0 : Int)) 1), .int .i64 ((fun _ => (0 : Int)) 2), .int .i64 ((fun _ => (0 : Int)) 3), .int .i64 ((fun _ => (0 : Int)) 4), .int .i64 ((fun _ => (0 : Int)) 5), .int .i64 ((fun _ => (0 : Int)) 6), .int .i64 ((fun _ => (0 : Int)) 7), .int .i64 ((fun _ => (0 : Int)) 8), .int .i64 ((fun _ => (0 : Int)) 9), .int .i64 ((fun _ => (0 : Int)) 10), .int .i64 ((fun _ => (0 : Int)) 11), .int .i64 ((fun _ => (0 : Int)) 12), .int .i64 ((fun _ => (0 : Int)) 13), .int .i64 ((fun _ => (0 : Int)) 14), .int .i64 ((fun _ => (0 : Int)) 15)], .bool false]) = .returned (.tuple #[.agg #[.int .i64 ((bz (pbOk s) (pbF s)) 0), .int .i64 ((bz (pbOk s) (pbF s)) 1), .int .i64 ((bz (pbOk s) (pbF s)) 2), .int .i64 ((bz (pbOk s) (pbF s)) 3), .int .i64 ((bz (pbOk s) (pbF s)) 4), .int .i64 ((bz (pbOk s) (pbF s)) 5), .int .i64 ((bz (pbOk s) (pbF s)) 6), .int .i64 ((bz (pbOk s) (pbF s)) 7), .int .i64 ((bz (pbOk s) (pbF s)) 8), .int .i64 ((bz (pbOk s) (pbF s)) 9), .int .i64 ((bz (pbOk s) (pbF s)) 10), .int .i64 ((bz (pbOk s) (pbF s)) 11), .int .i64 ((bz (pbOk s) (pbF s)) 12), .int .i64 ((bz (pbOk s) (pbF s)) 13), .int .i64 ((bz (pbOk s) (pbF s)) 14), .int .i64 ((bz (pbOk s) (pbF s)) 15)], .bool (pbOk s)]) := by
  rw [pbOk_long h]; rfl
theorem pb_ret_no {s : ByteArray} {i : Nat} (hi : i < 19) (h : pbStep s i = false) : Ending.returned (.tuple #[.agg #[.int .i64 ((fun _ => (0 : Int)) 0), .int .i64 ((fun _ => (0 : Int)) 1), .int .i64 ((fun _ => (0 : Int)) 2), .int .i64 ((fun _ => (0 : Int)) 3), .int .i64 ((fun _ => (0 : Int)) 4), .int .i64 ((fun _ => (0 : Int)) 5), .int .i64 ((fun _ => (0 : Int)) 6), .int .i64 ((fun _ => (0 : Int)) 7), .int .i64 ((fun _ => (0 : Int)) 8), .int .i64 ((fun _ => (0 : Int)) 9), .int .i64 ((fun _ => (0 : Int)) 10), .int .i64 ((fun _ => (0 : Int)) 11), .int .i64 ((fun _ => (0 : Int)) 12), .int .i64 ((fun _ => (0 : Int)) 13), .int .i64 ((fun _ => (0 : Int)) 14), .int .i64 ((fun _ => (0 : Int)) 15)], .bool false]) = .returned (.tuple #[.agg #[.int .i64 ((bz (pbOk s) (pbF s)) 0), .int .i64 ((bz (pbOk s) (pbF s)) 1), .int .i64 ((bz (pbOk s) (pbF s)) 2), .int .i64 ((bz (pbOk s) (pbF s)) 3), .int .i64 ((bz (pbOk s) (pbF s)) 4), .int .i64 ((bz (pbOk s) (pbF s)) 5), .int .i64 ((bz (pbOk s) (pbF s)) 6), .int .i64 ((bz (pbOk s) (pbF s)) 7), .int .i64 ((bz (pbOk s) (pbF s)) 8), .int .i64 ((bz (pbOk s) (pbF s)) 9), .int .i64 ((bz (pbOk s) (pbF s)) 10), .int .i64 ((bz (pbOk s) (pbF s)) 11), .int .i64 ((bz (pbOk s) (pbF s)) 12), .int .i64 ((bz (pbOk s) (pbF s)) 13), .int .i64 ((bz (pbOk s) (pbF s)) 14), .int .i64 ((bz (pbOk s) (pbF s)) 15)], .bool (pbOk s)]) := by
  rw [pbOk_not hi h]; rfl

set_option maxHeartbeats 16000000 in
set_option maxRecDepth 100000 in
theorem l2Parse_any (s : ByteArray) (hm : s.size ≤ 9223372036854775807) (w : World) : Calls Try.prog 81 #[.string s] w fun e w' => e = .returned (.tuple #[.agg #[.int .i64 ((bz (pbOk s) (pbF s)) 0), .int .i64 ((bz (pbOk s) (pbF s)) 1), .int .i64 ((bz (pbOk s) (pbF s)) 2), .int .i64 ((bz (pbOk s) (pbF s)) 3), .int .i64 ((bz (pbOk s) (pbF s)) 4), .int .i64 ((bz (pbOk s) (pbF s)) 5), .int .i64 ((bz (pbOk s) (pbF s)) 6), .int .i64 ((bz (pbOk s) (pbF s)) 7), .int .i64 ((bz (pbOk s) (pbF s)) 8), .int .i64 ((bz (pbOk s) (pbF s)) 9), .int .i64 ((bz (pbOk s) (pbF s)) 10), .int .i64 ((bz (pbOk s) (pbF s)) 11), .int .i64 ((bz (pbOk s) (pbF s)) 12), .int .i64 ((bz (pbOk s) (pbF s)) 13), .int .i64 ((bz (pbOk s) (pbF s)) 14), .int .i64 ((bz (pbOk s) (pbF s)) 15)], .bool (pbOk s)]) ∧ Below w.heap.size w w' := by
  by_cases hs : s.size = 19
  · have e1 : ((s.size : Int) != 19) = false := by rw [hs]; rfl
    have HS := hide hs
    clear hs
    go_enter Try.func81, Try.ntmps81
    go_upto_region 2 with (fail)
    generalize hW : (w.alloc _).alloc _ = w1
    have hB : Below w.heap.size w w1 := by (rw [← hW]; exact (by repeat (first | (with_reducible exact Below.refl _ _) | (with_reducible assumption) | (with_reducible refine below_go ?_ (by with_reducible assumption)) | (with_reducible refine below_new ?_ _) | ((with_reducible refine below_put ?_ ?_ _); rotate_left; (dsimp only; omega)) | (with_reducible refine Below.drew ?_) | (with_reducible refine below_dn ?_ _))))
    have hsz : Hid (w1.heap.size = w.heap.size + 1 + 1) := hide (by rw [← hW]; simp)
    have i0 : Has w1 (w.heap.size) 16 (fun _ => .int .i64 0) := by (rw [← hW]; repeat (first | (refine Has.new ?_ rfl; simp; done) | refine Has.alloc ?_ _))
    have ci0 := i0.1; have fi0 := i0.2.1; have zi0 := i0.2.2
    have i1 : Has w1 (w.heap.size + 1) 16 (fun _ => .int .i64 0) := by (rw [← hW]; repeat (first | (refine Has.new ?_ rfl; simp; done) | refine Has.alloc ?_ _))
    have ci1 := i1.1; have fi1 := i1.2.1; have zi1 := i1.2.2
    clear hW
    go_upto_region 4 with (first | (refine store_BoardF rfl _ _ rfl _ _ rfl rfl (by repeat (first | (with_reducible assumption) | (with_reducible apply Has.set) | ((with_reducible apply Has.other); (case hne => (dsimp only; omega))) | (with_reducible apply Has.alloc) | (with_reducible apply Has.drew) | (with_reducible apply Has.drewN))) ?_; intro w3 ho3 hn3; have hB' : Below w.heap.size w w3 := below_only (by repeat (first | (with_reducible exact Below.refl _ _) | (with_reducible assumption) | (with_reducible refine below_go ?_ (by with_reducible assumption)) | (with_reducible refine below_new ?_ _) | ((with_reducible refine below_put ?_ ?_ _); rotate_left; (dsimp only; omega)) | (with_reducible refine Below.drew ?_) | (with_reducible refine below_dn ?_ _))) ho3 (by omega); have i0' : Has w3 (w.heap.size) 16 _ := (by first | (with_reducible exact hn3) | exact Has.only (by repeat (first | (with_reducible assumption) | (with_reducible apply Has.set) | ((with_reducible apply Has.other); (case hne => (dsimp only; omega))) | (with_reducible apply Has.alloc) | (with_reducible apply Has.drew) | (with_reducible apply Has.drewN))) ho3 (by omega)); have i1' : Has w3 (w.heap.size + 1) 16 _ := (by first | (with_reducible exact hn3) | exact Has.only (by repeat (first | (with_reducible assumption) | (with_reducible apply Has.set) | ((with_reducible apply Has.other); (case hne => (dsimp only; omega))) | (with_reducible apply Has.alloc) | (with_reducible apply Has.drew) | (with_reducible apply Has.drewN))) ho3 (by omega)); clear ho3 hn3; clear hB; have hB := hB'; clear hB'; (try clear fi0); (try clear zi0); (try clear ci0); clear i0; have i0 := i0'; clear i0'; have ci0 := i0.1; have fi0 := i0.2.1; have zi0 := i0.2.2; (try clear fi1); (try clear zi1); (try clear ci1); clear i1; have i1 := i1'; clear i1'; have ci1 := i1.1; have fi1 := i1.2.1; have zi1 := i1.2.2))
    have i1 := i1.congr (d := fun o => .int .i64 (pbTo s 0 o)) (fun o ho => rfl)
    clear ci0 fi0 zi0 ci1 fi1 zi1 hsz
    go_wp2_with fail
    go_loopw [5] (fun v wr => ∃ k : Nat, k ≤ 19 ∧ v = .int .i64 k ∧ Hid (∀ j, j < k → pbStep s j = true) ∧ Below w.heap.size w wr ∧ Has wr w.heap.size 16 (fun _ => .int .i64 0) ∧ Has wr (w.heap.size + 1) 16 (fun o => .int .i64 (pbTo s k o))) (fun i _ => 19 - (intOf i).toNat)
    case atStart => exact ⟨0, by omega, rfl, hide (fun j hj => absurd hj (Nat.not_lt_zero _)), hB, i0, i1⟩
    case round =>
      clear hB i0 i1
      obtain ⟨k, hk, rfl, hall, hB, i0, i1⟩ := hrel
      by_cases h19 : k = 19
      · subst h19
        have HY := hide (pbOk_yes HS.out hall.out)
        have i1 := i1.congr (d := fun o => .int .i64 (pbF s o)) fun o ho => by rw [pbTo_full s ho]
        go_wp2_with (first | (refine load_Board rfl _ rfl _ _ rfl (by repeat (first | (with_reducible assumption) | (with_reducible apply Has.set) | ((with_reducible apply Has.other); (case hne => (dsimp only; omega))) | (with_reducible apply Has.alloc) | (with_reducible apply Has.drew) | (with_reducible apply Has.drewN))) (by omega) ?_) | (refine store_BoardF rfl _ _ rfl _ _ rfl rfl (by repeat (first | (with_reducible assumption) | (with_reducible apply Has.set) | ((with_reducible apply Has.other); (case hne => (dsimp only; omega))) | (with_reducible apply Has.alloc) | (with_reducible apply Has.drew) | (with_reducible apply Has.drewN))) ?_; intro w3 ho3 hn3; have hB' : Below w.heap.size w w3 := below_only (by repeat (first | (with_reducible exact Below.refl _ _) | (with_reducible assumption) | (with_reducible refine below_go ?_ (by with_reducible assumption)) | (with_reducible refine below_new ?_ _) | ((with_reducible refine below_put ?_ ?_ _); rotate_left; (dsimp only; omega)) | (with_reducible refine Below.drew ?_) | (with_reducible refine below_dn ?_ _))) ho3 (by omega); have i0' : Has w3 (w.heap.size) 16 _ := (by first | (with_reducible exact hn3) | exact Has.only (by repeat (first | (with_reducible assumption) | (with_reducible apply Has.set) | ((with_reducible apply Has.other); (case hne => (dsimp only; omega))) | (with_reducible apply Has.alloc) | (with_reducible apply Has.drew) | (with_reducible apply Has.drewN))) ho3 (by omega)); have i1' : Has w3 (w.heap.size + 1) 16 _ := (by first | (with_reducible exact hn3) | exact Has.only (by repeat (first | (with_reducible assumption) | (with_reducible apply Has.set) | ((with_reducible apply Has.other); (case hne => (dsimp only; omega))) | (with_reducible apply Has.alloc) | (with_reducible apply Has.drew) | (with_reducible apply Has.drewN))) ho3 (by omega)); clear ho3 hn3; clear hB; have hB := hB'; clear hB'; (try clear fi0); (try clear zi0); (try clear ci0); clear i0; have i0 := i0'; clear i0'; have ci0 := i0.1; have fi0 := i0.2.1; have zi0 := i0.2.2; (try clear fi1); (try clear zi1); (try clear ci1); clear i1; have i1 := i1'; clear i1'; have ci1 := i1.1; have fi1 := i1.2.1; have zi1 := i1.2.2))
        refine bodyPost_ret (results_cell_t rfl rfl (loadVar_Board i0 (by omega))) rfl ⟨?_, (by repeat (first | (with_reducible exact Below.refl _ _) | (with_reducible assumption) | (with_reducible refine below_go ?_ (by with_reducible assumption)) | (with_reducible refine below_new ?_ _) | ((with_reducible refine below_put ?_ ?_ _); rotate_left; (dsimp only; omega)) | (with_reducible refine Below.drew ?_) | (with_reducible refine below_dn ?_ _)))⟩
        rw [HY.out]; rfl
      · have hlt : k < 19 := by omega
        have hks : k < s.size := by rw [HS.out]; exact hlt
        have a1 : (0 : Int) ≤ k := by omega
        have a2 : (k : Int) < s.size := by omega
        have a3 : (k : Int) < 19 := by omega
        have HC := hide (pbC_at s k hks)
        have HSG := hide (fun w => l2Sign_any s[k] w)
        have hr := pbF_range s 0
        clear hr
        by_cases h4 : k % 5 = 4
        · have h4i : (k : Int) % 5 = 4 := by omega
          by_cases hc : s[k] = 47
          · have HP := hide (show pbStep s k = true by simp [pbStep, h4, HC.out, hc])
            have e2 : ((s[k].toNat : Int) != 47) = false := by rw [hc]; rfl
            have HT := hide (pbTo_same s h4)
            clear hc h4
            go_wp2_with (first | (go_at_call 144; refine (HSG.out _).mono ?_; rintro e w1 ⟨rfl, rfl⟩))
            go_roundw
            case rel => exact ⟨k + 1, by omega, by go_num, hide (step_all hall.out HP.out), hB, i0, by rw [HT.out]; exact i1⟩
            case measure => simp [intOf]; omega
          · have HP := hide (show pbStep s k = false by simp [pbStep, h4, HC.out, hc])
            have e2 : ((s[k].toNat : Int) != 47) = true := by
              simp only [bne_iff_ne, ne_eq]
              intro h; exact hc (UInt8.toNat_inj.1 (by show _ = 47; omega))
            clear hc h4
            go_wp2_with (first | (go_at_call 144; refine (HSG.out _).mono ?_; rintro e w1 ⟨rfl, rfl⟩) | (refine store_Board rfl _ _ rfl _ _ _ _ _ _ _ _ _ _ _ _ _ _ _ _ _ _ rfl rfl rfl (by repeat (first | (with_reducible assumption) | (with_reducible apply Has.set) | ((with_reducible apply Has.other); (case hne => (dsimp only; omega))) | (with_reducible apply Has.alloc) | (with_reducible apply Has.drew) | (with_reducible apply Has.drewN))) (by omega) ?_; intro w3 ho3 hn3; have hB' : Below w.heap.size w w3 := below_only (by repeat (first | (with_reducible exact Below.refl _ _) | (with_reducible assumption) | (with_reducible refine below_go ?_ (by with_reducible assumption)) | (with_reducible refine below_new ?_ _) | ((with_reducible refine below_put ?_ ?_ _); rotate_left; (dsimp only; omega)) | (with_reducible refine Below.drew ?_) | (with_reducible refine below_dn ?_ _))) ho3 (by omega); have i0' : Has w3 (w.heap.size) 16 _ := (by first | (with_reducible exact hn3) | exact Has.only (by repeat (first | (with_reducible assumption) | (with_reducible apply Has.set) | ((with_reducible apply Has.other); (case hne => (dsimp only; omega))) | (with_reducible apply Has.alloc) | (with_reducible apply Has.drew) | (with_reducible apply Has.drewN))) ho3 (by omega)); have i1' : Has w3 (w.heap.size + 1) 16 _ := (by first | (with_reducible exact hn3) | exact Has.only (by repeat (first | (with_reducible assumption) | (with_reducible apply Has.set) | ((with_reducible apply Has.other); (case hne => (dsimp only; omega))) | (with_reducible apply Has.alloc) | (with_reducible apply Has.drew) | (with_reducible apply Has.drewN))) ho3 (by omega)); clear ho3 hn3; clear hB; have hB := hB'; clear hB'; (try clear fi0); (try clear zi0); (try clear ci0); clear i0; have i0 := i0'; clear i0'; have ci0 := i0.1; have fi0 := i0.2.1; have zi0 := i0.2.2; (try clear fi1); (try clear zi1); (try clear ci1); clear i1; have i1 := i1'; clear i1'; have ci1 := i1.1; have fi1 := i1.2.1; have zi1 := i1.2.2))
            refine bodyPost_ret (results_cell_t rfl rfl (loadVar_Board i0 (by omega))) rfl ⟨pb_ret_no hlt HP.out, (by repeat (first | (with_reducible exact Below.refl _ _) | (with_reducible assumption) | (with_reducible refine below_go ?_ (by with_reducible assumption)) | (with_reducible refine below_new ?_ _) | ((with_reducible refine below_put ?_ ?_ _); rotate_left; (dsimp only; omega)) | (with_reducible refine Below.drew ?_) | (with_reducible refine below_dn ?_ _)))⟩
        · have h4i : ((k : Int) % 5 == 4) = false := by simp; omega
          have h4l : (k : Int) % 5 < 4 := by omega
          have h4g : (0 : Int) ≤ (k : Int) % 5 := by omega
          have h5l : (k : Int) / 5 < 4 := by omega
          have h5g : (0 : Int) ≤ (k : Int) / 5 := by omega
          have HK := hide h4
          have HT := hide (fun o => pbTo_succ s (o := o) h4)
          have HG : Hid (sgn (pbC s k) = sgn s[k]) := hide (by rw [HC.out])
          by_cases hc : sgn s[k] < 0
          · have HP := hide (show pbStep s k = false by simp [pbStep, h4, HC.out]; omega)
            clear h4
            generalize sgn s[k] = t at *
            go_wp2_with (first | (go_at_call 144; refine (HSG.out _).mono ?_; rintro e w1 ⟨rfl, rfl⟩) | (refine store_Board rfl _ _ rfl _ _ _ _ _ _ _ _ _ _ _ _ _ _ _ _ _ _ rfl rfl rfl (by repeat (first | (with_reducible assumption) | (with_reducible apply Has.set) | ((with_reducible apply Has.other); (case hne => (dsimp only; omega))) | (with_reducible apply Has.alloc) | (with_reducible apply Has.drew) | (with_reducible apply Has.drewN))) (by omega) ?_; intro w3 ho3 hn3; have hB' : Below w.heap.size w w3 := below_only (by repeat (first | (with_reducible exact Below.refl _ _) | (with_reducible assumption) | (with_reducible refine below_go ?_ (by with_reducible assumption)) | (with_reducible refine below_new ?_ _) | ((with_reducible refine below_put ?_ ?_ _); rotate_left; (dsimp only; omega)) | (with_reducible refine Below.drew ?_) | (with_reducible refine below_dn ?_ _))) ho3 (by omega); have i0' : Has w3 (w.heap.size) 16 _ := (by first | (with_reducible exact hn3) | exact Has.only (by repeat (first | (with_reducible assumption) | (with_reducible apply Has.set) | ((with_reducible apply Has.other); (case hne => (dsimp only; omega))) | (with_reducible apply Has.alloc) | (with_reducible apply Has.drew) | (with_reducible apply Has.drewN))) ho3 (by omega)); have i1' : Has w3 (w.heap.size + 1) 16 _ := (by first | (with_reducible exact hn3) | exact Has.only (by repeat (first | (with_reducible assumption) | (with_reducible apply Has.set) | ((with_reducible apply Has.other); (case hne => (dsimp only; omega))) | (with_reducible apply Has.alloc) | (with_reducible apply Has.drew) | (with_reducible apply Has.drewN))) ho3 (by omega)); clear ho3 hn3; clear hB; have hB := hB'; clear hB'; (try clear fi0); (try clear zi0); (try clear ci0); clear i0; have i0 := i0'; clear i0'; have ci0 := i0.1; have fi0 := i0.2.1; have zi0 := i0.2.2; (try clear fi1); (try clear zi1); (try clear ci1); clear i1; have i1 := i1'; clear i1'; have ci1 := i1.1; have fi1 := i1.2.1; have zi1 := i1.2.2))
            refine bodyPost_ret (results_cell_t rfl rfl (loadVar_Board i0 (by omega))) rfl ⟨pb_ret_no hlt HP.out, (by repeat (first | (with_reducible exact Below.refl _ _) | (with_reducible assumption) | (with_reducible refine below_go ?_ (by with_reducible assumption)) | (with_reducible refine below_new ?_ _) | ((with_reducible refine below_put ?_ ?_ _); rotate_left; (dsimp only; omega)) | (with_reducible refine Below.drew ?_) | (with_reducible refine below_dn ?_ _)))⟩
          · have hc0 : 0 ≤ sgn s[k] := by omega
            have HP := hide (show pbStep s k = true by simp [pbStep, h4, HC.out]; omega)
            have HO : Hid (((k : Int) / 5).toNat * 4 + ((k : Int) % 5).toNat = k / 5 * 4 + k % 5) := hide (by omega)
            clear h4 hc
            generalize sgn s[k] = t at *
            go_wp2_with (first | (go_at_call 144; refine (HSG.out _).mono ?_; rintro e w1 ⟨rfl, rfl⟩) | (refine store_int rfl _ _ rfl _ _ _ rfl rfl (by repeat (first | (with_reducible assumption) | (with_reducible apply Has.set) | ((with_reducible apply Has.other); (case hne => (dsimp only; omega))) | (with_reducible apply Has.alloc) | (with_reducible apply Has.drew) | (with_reducible apply Has.drewN))) (by omega) ?_; intro w3 ho3 hn3; have hB' : Below w.heap.size w w3 := below_only (by repeat (first | (with_reducible exact Below.refl _ _) | (with_reducible assumption) | (with_reducible refine below_go ?_ (by with_reducible assumption)) | (with_reducible refine below_new ?_ _) | ((with_reducible refine below_put ?_ ?_ _); rotate_left; (dsimp only; omega)) | (with_reducible refine Below.drew ?_) | (with_reducible refine below_dn ?_ _))) ho3 (by omega); have i0' : Has w3 (w.heap.size) 16 _ := (by first | (with_reducible exact hn3) | exact Has.only (by repeat (first | (with_reducible assumption) | (with_reducible apply Has.set) | ((with_reducible apply Has.other); (case hne => (dsimp only; omega))) | (with_reducible apply Has.alloc) | (with_reducible apply Has.drew) | (with_reducible apply Has.drewN))) ho3 (by omega)); have i1' : Has w3 (w.heap.size + 1) 16 _ := (by first | (with_reducible exact hn3) | exact Has.only (by repeat (first | (with_reducible assumption) | (with_reducible apply Has.set) | ((with_reducible apply Has.other); (case hne => (dsimp only; omega))) | (with_reducible apply Has.alloc) | (with_reducible apply Has.drew) | (with_reducible apply Has.drewN))) ho3 (by omega)); clear ho3 hn3; clear hB; have hB := hB'; clear hB'; (try clear fi0); (try clear zi0); (try clear ci0); clear i0; have i0 := i0'; clear i0'; have ci0 := i0.1; have fi0 := i0.2.1; have zi0 := i0.2.2; (try clear fi1); (try clear zi1); (try clear ci1); clear i1; have i1 := i1'; clear i1'; have ci1 := i1.1; have fi1 := i1.2.1; have zi1 := i1.2.2))
            go_roundw
            case rel => exact ⟨k + 1, by omega, by go_num, hide (step_all hall.out HP.out), hB, i0, i1.congr fun o ho => by
              rw [← HT.out o, HG.out]; exact ite_int _ _ _⟩
            case measure => simp [intOf]; omega
  · have e1 : ((s.size : Int) != 19) = true := by simp; omega
    have HL := hide (pb_ret_long hs)
    clear hs
    go_enter Try.func81, Try.ntmps81
    go_upto_region 2 with (fail)
    generalize hW : (w.alloc _).alloc _ = w1
    have hB : Below w.heap.size w w1 := by (rw [← hW]; exact (by repeat (first | (with_reducible exact Below.refl _ _) | (with_reducible assumption) | (with_reducible refine below_go ?_ (by with_reducible assumption)) | (with_reducible refine below_new ?_ _) | ((with_reducible refine below_put ?_ ?_ _); rotate_left; (dsimp only; omega)) | (with_reducible refine Below.drew ?_) | (with_reducible refine below_dn ?_ _))))
    have hsz : Hid (w1.heap.size = w.heap.size + 1 + 1) := hide (by rw [← hW]; simp)
    have i0 : Has w1 (w.heap.size) 16 (fun _ => .int .i64 0) := by (rw [← hW]; repeat (first | (refine Has.new ?_ rfl; simp; done) | refine Has.alloc ?_ _))
    have ci0 := i0.1; have fi0 := i0.2.1; have zi0 := i0.2.2
    have i1 : Has w1 (w.heap.size + 1) 16 (fun _ => .int .i64 0) := by (rw [← hW]; repeat (first | (refine Has.new ?_ rfl; simp; done) | refine Has.alloc ?_ _))
    have ci1 := i1.1; have fi1 := i1.2.1; have zi1 := i1.2.2
    clear hW
    go_wp2_with (first | (refine store_Board rfl _ _ rfl _ _ _ _ _ _ _ _ _ _ _ _ _ _ _ _ _ _ rfl rfl rfl (by repeat (first | (with_reducible assumption) | (with_reducible apply Has.set) | ((with_reducible apply Has.other); (case hne => (dsimp only; omega))) | (with_reducible apply Has.alloc) | (with_reducible apply Has.drew) | (with_reducible apply Has.drewN))) (by omega) ?_; intro w3 ho3 hn3; have hB' : Below w.heap.size w w3 := below_only (by repeat (first | (with_reducible exact Below.refl _ _) | (with_reducible assumption) | (with_reducible refine below_go ?_ (by with_reducible assumption)) | (with_reducible refine below_new ?_ _) | ((with_reducible refine below_put ?_ ?_ _); rotate_left; (dsimp only; omega)) | (with_reducible refine Below.drew ?_) | (with_reducible refine below_dn ?_ _))) ho3 (by omega); have i0' : Has w3 (w.heap.size) 16 _ := (by first | (with_reducible exact hn3) | exact Has.only (by repeat (first | (with_reducible assumption) | (with_reducible apply Has.set) | ((with_reducible apply Has.other); (case hne => (dsimp only; omega))) | (with_reducible apply Has.alloc) | (with_reducible apply Has.drew) | (with_reducible apply Has.drewN))) ho3 (by omega)); have i1' : Has w3 (w.heap.size + 1) 16 _ := (by first | (with_reducible exact hn3) | exact Has.only (by repeat (first | (with_reducible assumption) | (with_reducible apply Has.set) | ((with_reducible apply Has.other); (case hne => (dsimp only; omega))) | (with_reducible apply Has.alloc) | (with_reducible apply Has.drew) | (with_reducible apply Has.drewN))) ho3 (by omega)); clear ho3 hn3; clear hB; have hB := hB'; clear hB'; (try clear fi0); (try clear zi0); (try clear ci0); clear i0; have i0 := i0'; clear i0'; have ci0 := i0.1; have fi0 := i0.2.1; have zi0 := i0.2.2; (try clear fi1); (try clear zi1); (try clear ci1); clear i1; have i1 := i1'; clear i1'; have ci1 := i1.1; have fi1 := i1.2.1; have zi1 := i1.2.2))
    refine bodyPost_ret (results_cell_t rfl rfl (loadVar_Board i0 (by omega))) rfl ⟨HL.out, (by repeat (first | (with_reducible exact Below.refl _ _) | (with_reducible assumption) | (with_reducible refine below_go ?_ (by with_reducible assumption)) | (with_reducible refine below_new ?_ _) | ((with_reducible refine below_put ?_ ?_ _); rotate_left; (dsimp only; omega)) | (with_reducible refine Below.drew ?_) | (with_reducible refine below_dn ?_ _)))⟩

set_option maxHeartbeats 4000000 in
set_option maxRecDepth 100000 in
theorem specParseBoard_any (s : ByteArray) (hm : s.size ≤ 9223372036854775807) (w : World) : Calls Try.prog 11 #[.string s] w fun e w' => e = .returned (.tuple #[.agg #[.int .i64 ((bz (pbOk s) (pbF s)) 0), .int .i64 ((bz (pbOk s) (pbF s)) 1), .int .i64 ((bz (pbOk s) (pbF s)) 2), .int .i64 ((bz (pbOk s) (pbF s)) 3), .int .i64 ((bz (pbOk s) (pbF s)) 4), .int .i64 ((bz (pbOk s) (pbF s)) 5), .int .i64 ((bz (pbOk s) (pbF s)) 6), .int .i64 ((bz (pbOk s) (pbF s)) 7), .int .i64 ((bz (pbOk s) (pbF s)) 8), .int .i64 ((bz (pbOk s) (pbF s)) 9), .int .i64 ((bz (pbOk s) (pbF s)) 10), .int .i64 ((bz (pbOk s) (pbF s)) 11), .int .i64 ((bz (pbOk s) (pbF s)) 12), .int .i64 ((bz (pbOk s) (pbF s)) 13), .int .i64 ((bz (pbOk s) (pbF s)) 14), .int .i64 ((bz (pbOk s) (pbF s)) 15)], .bool (pbOk s)]) ∧ Below w.heap.size w w' := by
  have HP : Hid (∀ w : World, Calls Try.prog 81 #[.string s] w fun e w' => e = .returned (.tuple #[.agg #[.int .i64 ((bz (pbOk s) (pbF s)) 0), .int .i64 ((bz (pbOk s) (pbF s)) 1), .int .i64 ((bz (pbOk s) (pbF s)) 2), .int .i64 ((bz (pbOk s) (pbF s)) 3), .int .i64 ((bz (pbOk s) (pbF s)) 4), .int .i64 ((bz (pbOk s) (pbF s)) 5), .int .i64 ((bz (pbOk s) (pbF s)) 6), .int .i64 ((bz (pbOk s) (pbF s)) 7), .int .i64 ((bz (pbOk s) (pbF s)) 8), .int .i64 ((bz (pbOk s) (pbF s)) 9), .int .i64 ((bz (pbOk s) (pbF s)) 10), .int .i64 ((bz (pbOk s) (pbF s)) 11), .int .i64 ((bz (pbOk s) (pbF s)) 12), .int .i64 ((bz (pbOk s) (pbF s)) 13), .int .i64 ((bz (pbOk s) (pbF s)) 14), .int .i64 ((bz (pbOk s) (pbF s)) 15)], .bool (pbOk s)]) ∧ Below w.heap.size w w') := fun w => l2Parse_any s hm w
  generalize bz (pbOk s) (pbF s) = F at *
  generalize pbOk s = ok at *
  go_enter Try.func11, Try.ntmps11
  go_upto_region 1 with (fail)
  generalize hW : w.alloc _ = w1
  have hB : Below w.heap.size w w1 := by (rw [← hW]; exact (by repeat (first | (with_reducible exact Below.refl _ _) | (with_reducible assumption) | (with_reducible refine below_go ?_ (by with_reducible assumption)) | (with_reducible refine below_new ?_ _) | ((with_reducible refine below_put ?_ ?_ _); rotate_left; (dsimp only; omega)) | (with_reducible refine Below.drew ?_) | (with_reducible refine below_dn ?_ _))))
  have hsz : Hid (w1.heap.size = w.heap.size + 1) := hide (by rw [← hW]; simp)
  have i0 : Has w1 (w.heap.size) 16 (fun _ => .int .i64 0) := by (rw [← hW]; repeat (first | (refine Has.new ?_ rfl; simp; done) | refine Has.alloc ?_ _))
  have ci0 := i0.1; have fi0 := i0.2.1; have zi0 := i0.2.2
  clear hW
  go_wp2_with (first | (go_at_call 81; (with_reducible refine (HP.out _).mono ?_); rintro e w2 ⟨rfl, hb2⟩; have hB' : Below w.heap.size w w2 := below_go (by repeat (first | (with_reducible exact Below.refl _ _) | (with_reducible assumption) | (with_reducible refine below_go ?_ (by with_reducible assumption)) | (with_reducible refine below_new ?_ _) | ((with_reducible refine below_put ?_ ?_ _); rotate_left; (dsimp only; omega)) | (with_reducible refine Below.drew ?_) | (with_reducible refine below_dn ?_ _))) hb2; have i0' : Has w2 (w.heap.size) 16 _ := Has.call (by repeat (first | (with_reducible assumption) | (with_reducible apply Has.set) | ((with_reducible apply Has.other); (case hne => (dsimp only; omega))) | (with_reducible apply Has.alloc) | (with_reducible apply Has.drew) | (with_reducible apply Has.drewN))) hb2; clear hB hb2; have hB := hB'; clear hB'; (try clear fi0); (try clear zi0); (try clear ci0); clear i0; have i0 := i0'; clear i0'; have ci0 := i0.1; have fi0 := i0.2.1; have zi0 := i0.2.2) | (refine store_BoardF rfl _ _ rfl _ _ rfl rfl (by repeat (first | (with_reducible assumption) | (with_reducible apply Has.set) | ((with_reducible apply Has.other); (case hne => (dsimp only; omega))) | (with_reducible apply Has.alloc) | (with_reducible apply Has.drew) | (with_reducible apply Has.drewN))) ?_; intro w3 ho3 hn3; have hB' : Below w.heap.size w w3 := below_only (by repeat (first | (with_reducible exact Below.refl _ _) | (with_reducible assumption) | (with_reducible refine below_go ?_ (by with_reducible assumption)) | (with_reducible refine below_new ?_ _) | ((with_reducible refine below_put ?_ ?_ _); rotate_left; (dsimp only; omega)) | (with_reducible refine Below.drew ?_) | (with_reducible refine below_dn ?_ _))) ho3 (by omega); have i0' : Has w3 (w.heap.size) 16 _ := (by first | (with_reducible exact hn3) | exact Has.only (by repeat (first | (with_reducible assumption) | (with_reducible apply Has.set) | ((with_reducible apply Has.other); (case hne => (dsimp only; omega))) | (with_reducible apply Has.alloc) | (with_reducible apply Has.drew) | (with_reducible apply Has.drewN))) ho3 (by omega)); clear ho3 hn3; clear hB; have hB := hB'; clear hB'; (try clear fi0); (try clear zi0); (try clear ci0); clear i0; have i0 := i0'; clear i0'; have ci0 := i0.1; have fi0 := i0.2.1; have zi0 := i0.2.2))
  refine bodyPost_ret (results_cell_t rfl rfl (loadVar_Board i0 (by omega))) rfl ⟨rfl, (by repeat (first | (with_reducible exact Below.refl _ _) | (with_reducible assumption) | (with_reducible refine below_go ?_ (by with_reducible assumption)) | (with_reducible refine below_new ?_ _) | ((with_reducible refine below_put ?_ ?_ _); rotate_left; (dsimp only; omega)) | (with_reducible refine Below.drew ?_) | (with_reducible refine below_dn ?_ _)))⟩

end Go.Proofs.Ytmjehagmgifchaa
