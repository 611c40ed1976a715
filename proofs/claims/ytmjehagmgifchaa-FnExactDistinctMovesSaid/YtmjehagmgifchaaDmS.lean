/-
  Contract: DistinctMoves, the reference's.
-/
import Derived.Test.YtmjehagmgifchaaDmI
import Derived.Test.YtmjehagmgifchaaAddB
import Derived.Test.YtmjehagmgifchaaMovesQ
import Derived.Test.YtmjehagmgifchaaFirstS
namespace Go.Proofs.Ytmjehagmgifchaa
open Go.RowKit

set_option maxHeartbeats 16000000 in
set_option maxRecDepth 100000 in
theorem specDistinctMoves_own (b : Nat → Int) (w : World) : Calls Try.prog 17 #[.agg #[.int .i64 (b 0), .int .i64 (b 1), .int .i64 (b 2), .int .i64 (b 3), .int .i64 (b 4), .int .i64 (b 5), .int .i64 (b 6), .int .i64 (b 7), .int .i64 (b 8), .int .i64 (b 9), .int .i64 (b 10), .int .i64 (b 11), .int .i64 (b 12), .int .i64 (b 13), .int .i64 (b 14), .int .i64 (b 15)]] w fun e w' => ∃ A cap, e = .returned (.tuple #[.slice A (dmO b).length cap, .bool (bdB b)]) ∧ Sl w' w.heap.size A (dmO b).length (fI (dmO b)) ∧ Below w.heap.size w w' := by
  obtain ⟨i0s, hi0, hz0, hz1, hz2⟩ := info_parts info_int3
  cases hb : bdB b
  · have e0 : dmO b = [] := by simp [dmO, hb]
    rw [e0]
    clear e0
    go_enter Try.func17, Try.ntmps17
    go_upto_region 1 with (fail)
    generalize hW : w.alloc _ = w1
    have hB : Below w.heap.size w w1 := by (rw [← hW]; exact (by repeat (first | (with_reducible exact Below.refl _ _) | (with_reducible assumption) | (with_reducible refine below_go ?_ (by with_reducible assumption)) | (with_reducible refine below_new ?_ _) | ((with_reducible refine below_put ?_ ?_ _); rotate_left; (dsimp only; omega)) | (with_reducible refine Below.drew ?_) | (with_reducible refine below_dn ?_ _))))
    have hsz : Hid (w1.heap.size = w.heap.size + 1) := hide (by rw [← hW]; simp)
    have i0 : Has w1 (w.heap.size) 16 (fun o => .int .i64 (b o)) := by (rw [← hW]; repeat (first | (refine Has.new ?_ rfl; simp; done) | refine Has.alloc ?_ _))
    have ci0 := i0.1; have fi0 := i0.2.1; have zi0 := i0.2.2
    clear hW
    go_wp2_with (first | (go_at_call 87; (with_reducible refine (Calls.bool_as (l2Board_any b _) hb).mono ?_); rintro e w2 ⟨rfl, hb2⟩; have hB' : Below w.heap.size w w2 := below_go (by repeat (first | (with_reducible exact Below.refl _ _) | (with_reducible assumption) | (with_reducible refine below_go ?_ (by with_reducible assumption)) | (with_reducible refine below_new ?_ _) | ((with_reducible refine below_put ?_ ?_ _); rotate_left; (dsimp only; omega)) | (with_reducible refine Below.drew ?_) | (with_reducible refine below_dn ?_ _))) hb2; have i0' : Has w2 (w.heap.size) 16 _ := Has.call (by repeat (first | (with_reducible assumption) | (with_reducible apply Has.set) | ((with_reducible apply Has.other); (case hne => (dsimp only; omega))) | (with_reducible apply Has.alloc) | (with_reducible apply Has.drew) | (with_reducible apply Has.drewN))) hb2; clear hB hb2; have hB := hB'; clear hB'; (try clear fi0); (try clear zi0); (try clear ci0); clear i0; have i0 := i0'; clear i0'; have ci0 := i0.1; have fi0 := i0.2.1; have zi0 := i0.2.2) | (refine load_Board rfl _ rfl _ _ rfl (by repeat (first | (with_reducible assumption) | (with_reducible apply Has.set) | ((with_reducible apply Has.other); (case hne => (dsimp only; omega))) | (with_reducible apply Has.alloc) | (with_reducible apply Has.drew) | (with_reducible apply Has.drewN))) (by omega) ?_))
    go_ret2
    exact ⟨_, _, rfl, sl_zero _ _ _ _, (by repeat (first | (with_reducible exact Below.refl _ _) | (with_reducible assumption) | (with_reducible refine below_go ?_ (by with_reducible assumption)) | (with_reducible refine below_new ?_ _) | ((with_reducible refine below_put ?_ ?_ _); rotate_left; (dsimp only; omega)) | (with_reducible refine Below.drew ?_) | (with_reducible refine below_dn ?_ _)))⟩
  · have HB := hide (bdB_in hb)
    have e0 := hide (show dmO b = (dmP b (mvL b 4) (mvL b 4).length).1 from if_pos hb)
    rw [e0.out]
    have hn4 := mvL_len b 4
    have HD := hide (fun i (h : i < (mvL b 4).length) => mv_at h)
    have HMV : Hid (∀ w : World, Calls Try.prog 91 #[.agg #[.int .i64 (b 0), .int .i64 (b 1), .int .i64 (b 2), .int .i64 (b 3), .int .i64 (b 4), .int .i64 (b 5), .int .i64 (b 6), .int .i64 (b 7), .int .i64 (b 8), .int .i64 (b 9), .int .i64 (b 10), .int .i64 (b 11), .int .i64 (b 12), .int .i64 (b 13), .int .i64 (b 14), .int .i64 (b 15)]] w fun e w' => ∃ v, e = .returned v ∧ w'.ownsRow w.heap.size 3 1 v (mvL b 4).length (ints (mvL b 4)) ∧ Below w.heap.size w w') := fun w => l2Moves_own b HB.out w
    generalize mvL b 4 = L at *
    have HIS := hide (fun (w : World) (base : Nat) (v : Value) (h : w.ownsRow base 3 1 v L.length (ints L)) => ints_sl h)
    generalize hn : L.length = n at *
    have HN := hide hn
    clear hn
    go_enter Try.func17, Try.ntmps17
    go_upto_region 1 with (fail)
    generalize hW : w.alloc _ = w1
    have hB : Below w.heap.size w w1 := by (rw [← hW]; exact (by repeat (first | (with_reducible exact Below.refl _ _) | (with_reducible assumption) | (with_reducible refine below_go ?_ (by with_reducible assumption)) | (with_reducible refine below_new ?_ _) | ((with_reducible refine below_put ?_ ?_ _); rotate_left; (dsimp only; omega)) | (with_reducible refine Below.drew ?_) | (with_reducible refine below_dn ?_ _))))
    have hsz : Hid (w1.heap.size = w.heap.size + 1) := hide (by rw [← hW]; simp)
    have i0 : Has w1 (w.heap.size) 16 (fun o => .int .i64 (b o)) := by (rw [← hW]; repeat (first | (refine Has.new ?_ rfl; simp; done) | refine Has.alloc ?_ _))
    have ci0 := i0.1; have fi0 := i0.2.1; have zi0 := i0.2.2
    clear hW
    go_upto_region 2 with (fail)
    generalize hW : (w1.alloc _).alloc _ = w3
    have hB' : Below w.heap.size w w3 := by (rw [← hW]; exact (by repeat (first | (with_reducible exact Below.refl _ _) | (with_reducible assumption) | (with_reducible refine below_go ?_ (by with_reducible assumption)) | (with_reducible refine below_new ?_ _) | ((with_reducible refine below_put ?_ ?_ _); rotate_left; (dsimp only; omega)) | (with_reducible refine Below.drew ?_) | (with_reducible refine below_dn ?_ _))))
    have own4 : w3.ownsRow (w.heap.size + 1) 3 1 (.slice (some ⟨w1.heap.size, 0, none⟩) 0 0) 0 (ints []) := by (rw [← hW]; exact (World.ownsRow_made w1 #[] 0 zi0 (Nat.zero_le _) rfl).alloc _)
    have iS : Has w3 (w1.heap.size + 1) (0 * 16) (bsC []) := by
      rw [← hW]
      have h := (Has.new' (w := w1.alloc (.cells #[] 3)) (cs := #[]) (T := 25) (n := 0) rfl).congr (d := bsC []) (fun o ho => absurd ho (Nat.not_lt_zero o))
      simpa using h
    have i0' : Has w3 w.heap.size 16 (fun o => .int .i64 (b o)) := by (rw [← hW]; exact (i0.alloc _).alloc _)
    have hE4 : w1.heap.size + 1 < w3.heap.size := by (rw [← hW]; simp)
    clear hB i0 ci0 fi0 zi0 hW hsz
    have hB := hB'; have i0 := i0'
    clear hB' i0'
    have zi0 := i0.2.2; have ci0 := i0.1; have fi0 := i0.2.1
    generalize hE : w1.heap.size = E4 at *
    clear hE
    go_upto_region 4 with (first | (refine load_Board rfl _ rfl _ _ rfl (by repeat (first | (with_reducible assumption) | (with_reducible apply Has.set) | ((with_reducible apply Has.other); (case hne => (dsimp only; omega))) | (with_reducible apply Has.alloc) | (with_reducible apply Has.drew) | (with_reducible apply Has.drewN))) (by omega) ?_) | (go_at_call 87; (with_reducible refine (Calls.bool_as (l2Board_any b _) hb ).mono ?_); rintro e w2 ⟨rfl, hb2⟩; have own4' := own_call own4 hb2; clear own4; have own4 := own4'; clear own4'; have hB' : Below w.heap.size w w2 := below_go (by repeat (first | (with_reducible exact Below.refl _ _) | (with_reducible assumption) | (with_reducible refine below_go ?_ (by with_reducible assumption)) | (with_reducible refine below_new ?_ _) | ((with_reducible refine below_put ?_ ?_ _); rotate_left; (dsimp only; omega)) | (with_reducible refine Below.drew ?_) | (with_reducible refine below_dn ?_ _))) hb2; have i0' : Has w2 (w.heap.size) 16 _ := Has.call (by repeat (first | (with_reducible assumption) | (with_reducible apply Has.set) | ((with_reducible apply Has.other); (case hne => (dsimp only; omega))) | (with_reducible apply Has.alloc) | (with_reducible apply Has.drew) | (with_reducible apply Has.drewN))) hb2; have iS' : Has w2 (E4 + 1) (0 * 16) _ := Has.call (by repeat (first | (with_reducible assumption) | (with_reducible apply Has.set) | ((with_reducible apply Has.other); (case hne => (dsimp only; omega))) | (with_reducible apply Has.alloc) | (with_reducible apply Has.drew) | (with_reducible apply Has.drewN))) hb2; clear hB hb2; have hB := hB'; clear hB'; (try clear fi0); (try clear zi0); (try clear ci0); clear i0; have i0 := i0'; clear i0'; have ci0 := i0.1; have fi0 := i0.2.1; have zi0 := i0.2.2; (try clear fiS); (try clear ziS); (try clear ciS); clear iS; have iS := iS'; clear iS'; have ciS := iS.1; have fiS := iS.2.1; have ziS := iS.2.2))
    go_upto_region 5 with (first | (refine load_Board rfl _ rfl _ _ rfl (by repeat (first | (with_reducible assumption) | (with_reducible apply Has.set) | ((with_reducible apply Has.other); (case hne => (dsimp only; omega))) | (with_reducible apply Has.alloc) | (with_reducible apply Has.drew) | (with_reducible apply Has.drewN))) (by omega) ?_) | (go_at_call 91; (with_reducible refine (HMV.out _).mono ?_); rintro e w2 ⟨v, rfl, hown, hb2⟩; have hpre := ziS; obtain ⟨A, cap, rfl, hS⟩ := HIS.out _ _ _ hown; clear hown; have hgs := hb2.size; have own4' := own_call own4 hb2; clear own4; have own4 := own4'; clear own4'; have hB' : Below w.heap.size w w2 := below_go (by repeat (first | (with_reducible exact Below.refl _ _) | (with_reducible assumption) | (with_reducible refine below_go ?_ (by with_reducible assumption)) | (with_reducible refine below_new ?_ _) | ((with_reducible refine below_put ?_ ?_ _); rotate_left; (dsimp only; omega)) | (with_reducible refine Below.drew ?_) | (with_reducible refine below_dn ?_ _))) hb2; have i0' : Has w2 (w.heap.size) 16 _ := Has.call (by repeat (first | (with_reducible assumption) | (with_reducible apply Has.set) | ((with_reducible apply Has.other); (case hne => (dsimp only; omega))) | (with_reducible apply Has.alloc) | (with_reducible apply Has.drew) | (with_reducible apply Has.drewN))) hb2; have iS' : Has w2 (E4 + 1) (0 * 16) _ := Has.call (by repeat (first | (with_reducible assumption) | (with_reducible apply Has.set) | ((with_reducible apply Has.other); (case hne => (dsimp only; omega))) | (with_reducible apply Has.alloc) | (with_reducible apply Has.drew) | (with_reducible apply Has.drewN))) hb2; clear hB hb2; have hB := hB'; clear hB'; (try clear fi0); (try clear zi0); (try clear ci0); clear i0; have i0 := i0'; clear i0'; have ci0 := i0.1; have fi0 := i0.2.1; have zi0 := i0.2.2; (try clear fiS); (try clear ziS); (try clear ciS); clear iS; have iS := iS'; clear iS'; have ciS := iS.1; have fiS := iS.2.1; have ziS := iS.2.2))
    rcases Nat.eq_zero_or_pos n with h0 | h0
    · subst h0
      clear hS
      go_wp2_with fail
      refine wp_loop_rounds 1 ?_
      rw [rounds_succ]
      go_wp2
      go_ret2
      exact ⟨_, _, rfl, sl_zero _ _ _ _, (by repeat (first | (with_reducible exact Below.refl _ _) | (with_reducible assumption) | (with_reducible refine below_go ?_ (by with_reducible assumption)) | (with_reducible refine below_new ?_ _) | ((with_reducible refine below_put ?_ ?_ _); rotate_left; (dsimp only; omega)) | (with_reducible refine Below.drew ?_) | (with_reducible refine below_dn ?_ _)))⟩
    · obtain ⟨gm, rfl, hgm, iM⟩ := hS h0
      clear hS
      have hEg : E4 + 1 < gm := by omega
      have ziM := iM.2.2
      clear hgm hgs hE4 ci0 fi0 ciS fiS ziS
      go_wp2_with fail
      go_loopw [4, 5, 7] (fun v4 v5 i wr => ∃ (k : Nat) (u4 : Value) (g5 c5 : Nat), u4 = v4 ∧ v5 = .slice (some ⟨g5, 0, none⟩) (snL b L k).length c5 ∧ (snL b L k).length ≤ c5 ∧ k ≤ n ∧ i = .int .i64 k ∧ wr.ownsRow (w.heap.size + 1) 3 1 u4 (dmP b L k).1.length (ints (dmP b L k).1) ∧ Has wr g5 ((snL b L k).length * 16) (bsC (snL b L k)) ∧ (∀ j, u4.ownBlock = some j → j ≠ gm ∧ j ≠ g5) ∧ Below w.heap.size w wr ∧ Has wr w.heap.size 16 (fun o => .int .i64 (b o)) ∧ Has wr gm n (fI L)) (fun _ _ i _ => n - (intOf i).toNat)
      case atStart => exact ⟨0, _, E4 + 1, 0, rfl, rfl, Nat.le_refl _, by omega, rfl, own4, iS, (fun j hj => by have := Option.some.inj (show some E4 = some j from hj); omega), hB, i0, iM⟩
      case round =>
        clear own4 iS hB i0 iM ziM zi0
        rename_i v4 v5 _
        obtain ⟨k, v4, g5, c5, rfl, rfl, hc5, hk, rfl, own4, iS, n4, hB, i0, iM⟩ := hrel
        have zi0 := i0.2.2
        have ziM := iM.2.2
        have ziS := iS.2.2
        have a0 : (0 : Int) ≤ k := by omega
        have hl4 := (dm_len b L k).1
        have hl5 := sn_len b L k
        by_cases hlt : k < n
        · have a1 : (k : Int) < n := by omega
          have hd := HD.out k hlt
          have q1 : wr.cell? ⟨gm, k, none⟩ = some (.int .i64 (L.getD k 0 : Int)) := iM.1 k hlt
          have HQ1 : Hid (fI L k = .int .i64 (L.getD k 0 : Int)) := hide rfl
          have HY := hide (fun h => dm_yes (b := b) (L := L) (i := k) h)
          have HNO := hide (fun h => dm_no (b := b) (L := L) (i := k) h)
          have HSY := hide (fun h => sn_yes (b := b) (L := L) (i := k) h)
          have HSN := hide (fun h => sn_no (b := b) (L := L) (i := k) h)
          have HSH := hide (sn_has b L k)
          have HGR := hide (sn_grow b L k)
          have HAD : Hid (∀ (w : World) (F : Nat → Int), Has w g5 ((snL b L k).length * 16) (bsC (snL b L k)) → Calls Try.prog 93 #[.slice (some ⟨g5, 0, none⟩) (snL b L k).length c5, .agg #[.int .i64 (F 0), .int .i64 (F 1), .int .i64 (F 2), .int .i64 (F 3), .int .i64 (F 4), .int .i64 (F 5), .int .i64 (F 6), .int .i64 (F 7), .int .i64 (F 8), .int .i64 (F 9), .int .i64 (F 10), .int .i64 (F 11), .int .i64 (F 12), .int .i64 (F 13), .int .i64 (F 14), .int .i64 (F 15)]] w fun e w' => ∃ g' cap', e = .returned (.slice (some ⟨g', 0, none⟩) (adO ltB eqB (snL b L k) F).length cap') ∧ (adO ltB eqB (snL b L k) F).length ≤ cap' ∧ Has w' g' ((adO ltB eqB (snL b L k) F).length * 16) (bsC (adO ltB eqB (snL b L k) F)) ∧ (g' = g5 ∨ w.heap.size ≤ g') ∧ Below w.heap.size w w') := fun w F h => l3Add_any (snL b L k) (by omega) g5 c5 hc5 F w h
          generalize L.getD k 0 = d at *
          have HSL : Hid (∀ w : World, Calls Try.prog 92 #[.agg #[.int .i64 (b 0), .int .i64 (b 1), .int .i64 (b 2), .int .i64 (b 3), .int .i64 (b 4), .int .i64 (b 5), .int .i64 (b 6), .int .i64 (b 7), .int .i64 (b 8), .int .i64 (b 9), .int .i64 (b 10), .int .i64 (b 11), .int .i64 (b 12), .int .i64 (b 13), .int .i64 (b 14), .int .i64 (b 15)], .int .i64 (d : Int)] w fun e w' => e = .returned (.tuple #[.agg #[.int .i64 ((slB b d) 0), .int .i64 ((slB b d) 1), .int .i64 ((slB b d) 2), .int .i64 ((slB b d) 3), .int .i64 ((slB b d) 4), .int .i64 ((slB b d) 5), .int .i64 ((slB b d) 6), .int .i64 ((slB b d) 7), .int .i64 ((slB b d) 8), .int .i64 ((slB b d) 9), .int .i64 ((slB b d) 10), .int .i64 ((slB b d) 11), .int .i64 ((slB b d) 12), .int .i64 ((slB b d) 13), .int .i64 ((slB b d) 14), .int .i64 ((slB b d) 15)], .int .i64 (scTo b d 4)]) ∧ Below w.heap.size w w') := fun w => l2Slide_any b HB.out d hd w
          obtain ⟨K8, HFS⟩ : ∃ K : Int, Hid (∀ w : World, Calls Try.prog 88 #[.agg #[.int .i64 ((slB b d) 0), .int .i64 ((slB b d) 1), .int .i64 ((slB b d) 2), .int .i64 ((slB b d) 3), .int .i64 ((slB b d) 4), .int .i64 ((slB b d) 5), .int .i64 ((slB b d) 6), .int .i64 ((slB b d) 7), .int .i64 ((slB b d) 8), .int .i64 ((slB b d) 9), .int .i64 ((slB b d) 10), .int .i64 ((slB b d) 11), .int .i64 ((slB b d) 12), .int .i64 ((slB b d) 13), .int .i64 ((slB b d) 14), .int .i64 ((slB b d) 15)]] w fun e w' => e = .returned (.tuple #[.agg #[.int .i64 ((fdB b d) 0), .int .i64 ((fdB b d) 1), .int .i64 ((fdB b d) 2), .int .i64 ((fdB b d) 3), .int .i64 ((fdB b d) 4), .int .i64 ((fdB b d) 5), .int .i64 ((fdB b d) 6), .int .i64 ((fdB b d) 7), .int .i64 ((fdB b d) 8), .int .i64 ((fdB b d) 9), .int .i64 ((fdB b d) 10), .int .i64 ((fdB b d) 11), .int .i64 ((fdB b d) 12), .int .i64 ((fdB b d) 13), .int .i64 ((fdB b d) 14), .int .i64 ((fdB b d) 15)], .int .i64 K]) ∧ Below w.heap.size w w') := ⟨_, hide fun w => l3First_any (slB b d) w⟩
          generalize slB b d = G at *
          generalize scTo b d 4 = sc at *
          generalize fdB b d = F at *
          generalize snL b L k = sl at *
          have hB0 := hB
          clear hB
          have hB : Below wr.heap.size wr wr := Below.refl _ _
          go_wp2_with fail
          refine wp_region_noPanic ?_
          refine wp_region_held_drew (S := (fun w' => RB w.heap.size b w' ∧ w'.cell? ⟨gm, k, none⟩ = some (.int .i64 (d : Int)))) (by kernel_rfl) ?hS01 (fun hHeld => ?_)
          case hS01 => exact ⟨rb_of (Has.drew i0), (iM.1 k hlt).trans (congrArg some HQ1.out)⟩
          have hB' : Below wr.heap.size wr (World.drew _) := Below.drew hB
          have i0' := Has.drew i0
          have iS' := Has.drew iS
          have iM' := Has.drew iM
          (try clear ci0); (try clear fi0)
          (try clear ciS); (try clear fiS)
          (try clear ciM); (try clear fiM)
          generalize hWW : World.drew _ = wx at *; clear hWW
          clear hB; have hB := hB'; clear hB'; clear i0 zi0; have i0 := i0'; clear i0'; have zi0 := i0.2.2; clear iS ziS; have iS := iS'; clear iS'; have ziS := iS.2.2; clear iM ziM; have iM := iM'; clear iM'; have ziM := iM.2.2
          refine take_d (i := 0) (some 28) (oi := _) (v := _) rfl rfl (by kernel_rfl) (by kernel_rfl) (by kernel_rfl) (fun _ _ _ h => h) (yieldsIf_load_mid (by rfl) _ _ rfl _ _ rfl _ _ (fun w h => h.1.r) Try.underlying25 rfl (by kernel_rfl)) (by assumption) ?_
          all_goals (try simp only [Act.put, List.setIfInBounds_toArray, List.set_cons_zero, List.set_cons_succ])
          refine take_d (i := 1) (some 29) (v := ?_) rfl rfl (by kernel_rfl) (by kernel_rfl) (by kernel_rfl) (fun _ _ _ h => h) (Or.inl ⟨by rfl, ?_⟩) (by assumption) ?_
          rotate_left; (intro w hSw; have hq := hSw.2; clear hSw; go_simp; try with_reducible rfl)
          all_goals (try simp only [Act.put, List.setIfInBounds_toArray, List.set_cons_zero, List.set_cons_succ])
          refine take_d (i := 2) (some 30) (v := ?_) rfl rfl (by kernel_rfl) (by kernel_rfl) (by kernel_rfl) (fun _ _ _ h => h) (Or.inl ⟨by rfl, ?_⟩) (by assumption) ?_
          rotate_left; (intro w hSw; have hq := hSw.2; clear hSw; go_simp; try with_reducible rfl)
          all_goals (try simp only [Act.put, List.setIfInBounds_toArray, List.set_cons_zero, List.set_cons_succ])
          refine take_d (i := 3) (some 31) (v := ?_) rfl rfl (by kernel_rfl) (by kernel_rfl) (by kernel_rfl) (fun _ _ _ h => h) (Or.inl ⟨by rfl, ?_⟩) (by assumption) ?_
          rotate_left; (intro w hSw; have hq := hSw.2; clear hSw; go_simp; try with_reducible rfl)
          all_goals (try simp only [Act.put, List.setIfInBounds_toArray, List.set_cons_zero, List.set_cons_succ])
          refine take_d (i := 4) (some 32) (v := ?_) rfl rfl (by kernel_rfl) (by kernel_rfl) (by kernel_rfl) (fun _ _ _ h => h) (Or.inl ⟨by rfl, ?_⟩) (by assumption) ?_
          rotate_left; (intro w hSw; have hq := hSw.2; clear hSw; go_simp; try with_reducible rfl)
          all_goals (try simp only [Act.put, List.setIfInBounds_toArray, List.set_cons_zero, List.set_cons_succ])
          refine wpAnyH_ready (rs := [5, 9]) (by kernel_rfl) (by simp) ?_
          refine AllReadyH.cons (o := _) rfl (fun K hK => ?_) ?_
          ·
            go_simp
            refine (HSL.out _).mono ?_
            rintro e w2 ⟨rfl, hb2⟩
            (try go_wp2_with fail)
            have hB' : Below wr.heap.size wr w2 := below_go hB hb2
            have i0' := Has.call i0 hb2
            have iS' := Has.call iS hb2
            have iM' := Has.call iM hb2
            clear hb2; clear hB; have hB := hB'; clear hB'; clear i0 zi0; have i0 := i0'; clear i0'; have zi0 := i0.2.2; clear iS ziS; have iS := iS'; clear iS'; have ziS := iS.2.2; clear iM ziM; have iM := iM'; clear iM'; have ziM := iM.2.2
            generalize hWW : w2 = wx at *; clear hWW
            refine hK.out _ _ ?hS2 (fun hHeld => ?_)
            case hS2 => exact ⟨rb_of i0, (iM.1 k hlt).trans (congrArg some HQ1.out)⟩
            clear hK K
            (try simp only [Act.put, List.setIfInBounds_toArray, List.set_cons_zero, List.set_cons_succ])
            refine take_d (i := 6) (some 27) (v := ?_) rfl rfl (by kernel_rfl) (by kernel_rfl) (by kernel_rfl) (fun _ _ _ h => h) (Or.inl ⟨by rfl, ?_⟩) (by assumption) ?_
            rotate_left; (intro w hSw; have hq := hSw.2; clear hSw; go_simp; try with_reducible rfl)
            all_goals (try simp only [Act.put, List.setIfInBounds_toArray, List.set_cons_zero, List.set_cons_succ])
            refine take_d (i := 7) (some 34) (v := ?_) rfl rfl (by kernel_rfl) (by kernel_rfl) (by kernel_rfl) (fun _ _ _ h => h) (Or.inl ⟨by rfl, ?_⟩) (by assumption) ?_
            rotate_left; (intro w hSw; have hq := hSw.2; clear hSw; go_simp; try with_reducible rfl)
            all_goals (try simp only [Act.put, List.setIfInBounds_toArray, List.set_cons_zero, List.set_cons_succ])
            refine take_d (i := 8) (some 35) (v := ?_) rfl rfl (by kernel_rfl) (by kernel_rfl) (by kernel_rfl) (fun _ _ _ h => h) (Or.inl ⟨by rfl, ?_⟩) (by assumption) ?_
            rotate_left; (intro w hSw; have hq := hSw.2; clear hSw; go_simp; try with_reducible rfl)
            all_goals (try simp only [Act.put, List.setIfInBounds_toArray, List.set_cons_zero, List.set_cons_succ])
            refine wpAnyH_ready (rs := [9]) (by kernel_rfl) (by simp) ?_
            refine AllReadyH.cons (o := _) rfl (fun K hK => ?_) ?_
            ·
              go_simp
              generalize hW : World.alloc _ _ = w2
              have hB' : Below wr.heap.size wr w2 := by (rw [← hW]; exact below_new hB _)
              have i0' := Has.at hW (Has.alloc i0 _)
              have iS' := Has.at hW (Has.alloc iS _)
              have iM' := Has.at hW (Has.alloc iM _)
              have jn := Has.newat (n := 16) hW rfl
              have hbn := hB.size
              clear hW; have zn := ziM; have zni0 := zi0; have zniS := ziS; have zniM := ziM; clear hB; have hB := hB'; clear hB'; clear i0 zi0; have i0 := i0'; clear i0'; have zi0 := i0.2.2; clear iS ziS; have iS := iS'; clear iS'; have ziS := iS.2.2; clear iM ziM; have iM := iM'; clear iM'; have ziM := iM.2.2
              generalize hS : (World.heap wx).size = Bn at *
              clear hS; generalize hWW : w2 = wx at *; clear hWW
              refine hK.out _ _ ?hS3 (fun hHeld => ?_)
              case hS3 => exact ⟨rb_of i0, (iM.1 k hlt).trans (congrArg some HQ1.out)⟩
              clear hK K
              (try simp only [Act.put, List.setIfInBounds_toArray, List.set_cons_zero, List.set_cons_succ])
              refine wpAnyH_ready (rs := [10]) (by kernel_rfl) (by simp) ?_
              refine AllReadyH.cons (o := _) rfl (fun K hK => ?_) ?_
              ·
                rw [if_pos (by rfl)]
                refine wp_store_BoardF _ _ rfl _ _ rfl rfl rfl jn ?_
                intro w3 ho3 hn3
                have hB' : Below wr.heap.size wr w3 := below_only hB ho3 (by omega)
                have i0' := Has.only i0 ho3 (by omega)
                have iS' := Has.only iS ho3 (by omega)
                have iM' := Has.only iM ho3 (by omega)
                clear jn ho3; have jn := hn3; clear hn3; clear hB; have hB := hB'; clear hB'; clear i0 zi0; have i0 := i0'; clear i0'; have zi0 := i0.2.2; clear iS ziS; have iS := iS'; clear iS'; have ziS := iS.2.2; clear iM ziM; have iM := iM'; clear iM'; have ziM := iM.2.2
                generalize hWW : w3 = wx at *; clear hWW
                refine hK.out _ _ ?hS4 (fun hHeld => ?_)
                case hS4 => exact ⟨rb_of i0, (iM.1 k hlt).trans (congrArg some HQ1.out)⟩
                clear hK K
                (try simp only [Act.put, List.setIfInBounds_toArray, List.set_cons_zero, List.set_cons_succ])
                refine take_d (i := 11) (some 9) (v := ?_) rfl rfl (by kernel_rfl) (by kernel_rfl) (by kernel_rfl) (fun _ _ _ h => h) (Or.inl ⟨by rfl, ?_⟩) (by assumption) ?_
                rotate_left; (intro w hSw; have hq := hSw.2; clear hSw; go_simp; try with_reducible rfl)
                all_goals (try simp only [Act.put, List.setIfInBounds_toArray, List.set_cons_zero, List.set_cons_succ])
                refine wpAnyH_done (by kernel_rfl) ?_ _
                refine NoPanic.normal ?_
                have own4' := own_call own4 hB
                have hB' := below_go hB0 hB
                have N4 : ∀ j, v4.ownBlock = some j → j < Bn ∧ j ≠ gm ∧ j ≠ g5 := fun j hj => ⟨Nat.lt_of_lt_of_le (own4.lt j hj).2 hbn, n4 j hj⟩
                clear own4 hB hB0 n4 q1
                have own4 := own4'; have hB := hB'
                clear own4' hB'
                have ci0 := i0.1; have fi0 := i0.2.1; have zi0 := i0.2.2; have ciS := iS.1; have fiS := iS.2.1; have ziS := iS.2.2; have ciM := iM.1; have fiM := iM.2.1; have ziM := iM.2.2; have cjn := jn.1; have fjn := jn.2.1; have zjn := jn.2.2
                go_upto_region 10 with (first | (refine load_Board rfl _ rfl _ _ rfl (by repeat (first | (with_reducible assumption) | (with_reducible apply Has.set) | ((with_reducible apply Has.other); (case hne => (dsimp only; omega))) | (with_reducible apply Has.alloc) | (with_reducible apply Has.drew) | (with_reducible apply Has.drewN))) (by omega) ?_) | (go_at_call 88; (with_reducible refine (HFS.out _).mono ?_); rintro e w2 ⟨rfl, hb2⟩; have own4' := own_call own4 hb2; clear own4; have own4 := own4'; clear own4'; have hB' : Below w.heap.size w w2 := below_go (by repeat (first | (with_reducible exact Below.refl _ _) | (with_reducible assumption) | (with_reducible refine below_go ?_ (by with_reducible assumption)) | (with_reducible refine below_new ?_ _) | ((with_reducible refine below_put ?_ ?_ _); rotate_left; (dsimp only; omega)) | (with_reducible refine Below.drew ?_) | (with_reducible refine below_dn ?_ _))) hb2; have i0' : Has w2 (w.heap.size) 16 _ := Has.call (by repeat (first | (with_reducible assumption) | (with_reducible apply Has.set) | ((with_reducible apply Has.other); (case hne => (dsimp only; omega))) | (with_reducible apply Has.alloc) | (with_reducible apply Has.drew) | (with_reducible apply Has.drewN))) hb2; have iS' : Has w2 (g5) (sl.length * 16) _ := Has.call (by repeat (first | (with_reducible assumption) | (with_reducible apply Has.set) | ((with_reducible apply Has.other); (case hne => (dsimp only; omega))) | (with_reducible apply Has.alloc) | (with_reducible apply Has.drew) | (with_reducible apply Has.drewN))) hb2; have iM' : Has w2 (gm) n _ := Has.call (by repeat (first | (with_reducible assumption) | (with_reducible apply Has.set) | ((with_reducible apply Has.other); (case hne => (dsimp only; omega))) | (with_reducible apply Has.alloc) | (with_reducible apply Has.drew) | (with_reducible apply Has.drewN))) hb2; have jn' : Has w2 (Bn) 16 _ := Has.call (by repeat (first | (with_reducible assumption) | (with_reducible apply Has.set) | ((with_reducible apply Has.other); (case hne => (dsimp only; omega))) | (with_reducible apply Has.alloc) | (with_reducible apply Has.drew) | (with_reducible apply Has.drewN))) hb2; clear hB hb2; have hB := hB'; clear hB'; (try clear fi0); (try clear zi0); (try clear ci0); clear i0; have i0 := i0'; clear i0'; have ci0 := i0.1; have fi0 := i0.2.1; have zi0 := i0.2.2; (try clear fiS); (try clear ziS); (try clear ciS); clear iS; have iS := iS'; clear iS'; have ciS := iS.1; have fiS := iS.2.1; have ziS := iS.2.2; (try clear fiM); (try clear ziM); (try clear ciM); clear iM; have iM := iM'; clear iM'; have ciM := iM.1; have fiM := iM.2.1; have ziM := iM.2.2; (try clear fjn); (try clear zjn); (try clear cjn); clear jn; have jn := jn'; clear jn'; have cjn := jn.1; have fjn := jn.2.1; have zjn := jn.2.2))
                generalize hW : (World.alloc w2 _) = w1
                have hB' : Below w.heap.size w w1 := by (rw [← hW]; exact (by repeat (first | (with_reducible exact Below.refl _ _) | (with_reducible assumption) | (with_reducible refine below_go ?_ (by with_reducible assumption)) | (with_reducible refine below_new ?_ _) | ((with_reducible refine below_put ?_ ?_ _); rotate_left; (dsimp only; omega)) | (with_reducible refine Below.drew ?_) | (with_reducible refine below_dn ?_ _))))
                have i0' := Has.at hW (B := w.heap.size) (n := 16) (by repeat (first | (with_reducible assumption) | (with_reducible apply Has.set) | ((with_reducible apply Has.other); (case hne => (dsimp only; omega))) | (with_reducible apply Has.alloc) | (with_reducible apply Has.drew) | (with_reducible apply Has.drewN)))
                have iS' := Has.at hW (B := g5) (n := (sl.length * 16)) (by repeat (first | (with_reducible assumption) | (with_reducible apply Has.set) | ((with_reducible apply Has.other); (case hne => (dsimp only; omega))) | (with_reducible apply Has.alloc) | (with_reducible apply Has.drew) | (with_reducible apply Has.drewN)))
                have iM' := Has.at hW (B := gm) (n := n) (by repeat (first | (with_reducible assumption) | (with_reducible apply Has.set) | ((with_reducible apply Has.other); (case hne => (dsimp only; omega))) | (with_reducible apply Has.alloc) | (with_reducible apply Has.drew) | (with_reducible apply Has.drewN)))
                have jn' := Has.at hW (B := Bn) (n := 16) (by repeat (first | (with_reducible assumption) | (with_reducible apply Has.set) | ((with_reducible apply Has.other); (case hne => (dsimp only; omega))) | (with_reducible apply Has.alloc) | (with_reducible apply Has.drew) | (with_reducible apply Has.drewN)))
                have k0 := Has.at hW (n := 16) (Has.new' rfl)
                try simp only [World.size_alloc] at k0
                have own4' := own_at hW own4; clear own4; have own4 := own4'; clear own4'
                clear hW; clear hB; have hB := hB'; clear hB'; (try clear fi0); (try clear zi0); (try clear ci0); clear i0; have i0 := i0'; clear i0'; have ci0 := i0.1; have fi0 := i0.2.1; have zi0 := i0.2.2; (try clear fiS); (try clear ziS); (try clear ciS); clear iS; have iS := iS'; clear iS'; have ciS := iS.1; have fiS := iS.2.1; have ziS := iS.2.2; (try clear fiM); (try clear ziM); (try clear ciM); clear iM; have iM := iM'; clear iM'; have ciM := iM.1; have fiM := iM.2.1; have ziM := iM.2.2; (try clear fjn); (try clear zjn); (try clear cjn); clear jn; have jn := jn'; clear jn'; have cjn := jn.1; have fjn := jn.2.1; have zjn := jn.2.2; have ck0 := k0.1; have fk0 := k0.2.1; have zk0 := k0.2.2
                generalize hS : w2.heap.size = B9 at *
                clear hS
                have k0 := k0.congr (d := fun o => .int .i64 (F o)) (fun o ho => lit16' F o ho)
                clear ck0; have ck0 := k0.1
                have HADF := hide (fun w h => HAD.out w F h)
                clear HAD
                have hgr := HGR.out
                have hsh := HSH.out F
                cases hc : hasO eqB (dmP b L k).2 F
                · have HK := hide (HNO.out hc)
                  have HKS := hide (HSN.out (hsh.trans hc))
                  rw [hc, if_neg Bool.false_ne_true] at hgr
                  clear hc hsh
                  generalize adO ltB eqB sl F = al at *
                  go_upto_region 11 with (first | (refine load_Board rfl _ rfl _ _ rfl (by repeat (first | (with_reducible assumption) | (with_reducible apply Has.set) | ((with_reducible apply Has.other); (case hne => (dsimp only; omega))) | (with_reducible apply Has.alloc) | (with_reducible apply Has.drew) | (with_reducible apply Has.drewN))) (by omega) ?_) | (go_at_call 93; (with_reducible refine (HADF.out _ iS).mono ?_); rintro e w4 ⟨g6, c6, rfl, hc6, iS6, hg6, hb4⟩))
                  have N6 : ∀ j, v4.ownBlock = some j → j ≠ g6 := fun j hj => by
                    rcases hg6 with h | h
                    · rw [h]; exact (N4 j hj).2.2
                    · have := (own4.lt j hj).2
                      omega
                  have hB4 := below_go hB hb4
                  have i04 := i0.call hb4
                  have iM4 := iM.call hb4
                  have iS4 := iS.call hb4
                  have own44 := own_call own4 hb4
                  have hgmw := iM4.2.2
                  have hg6w := iS6.2.2
                  have HN4 : ∀ j, v4.ownBlock = some j → j ≠ gm ∧ j ≠ g5 := fun j hj => (N4 j hj).2
                  clear hB i0 iM iS own4 hb4 hg6 N4 ci0 fi0 zi0 ciS fiS ziS ciM fiM ziM ck0 fk0 zk0 k0 jn cjn fjn zjn
                  have q1 : w4.cell? ⟨gm, k, none⟩ = some (.int .i64 (d : Int)) := (iM4.1 k hlt).trans (congrArg some HQ1.out)
                  have e1 : (sl.length : Int) < al.length := by omega
                  have hz4 : w.heap.size < w4.heap.size := i04.2.2
                  go_wp2_with (at_builtin; refine wpList_append_lies _ rfl _ _ _ rfl (w.heap.size + 1) 3 i0s (.int .i64 0) 1 8 Try.underlying35 hi0 hz0 hz1 hz2 rfl (by decide) _ _ _ rfl (own44.alloc _) ⟨w4.heap.size, 0, none⟩ 1 1 [.int .i64 (d : Int)] rfl rfl one_cell (fun u hu => by simp at hu; subst hu; rfl) (by decide) (by unfold maxLen; omega) (by omega) (by simp; omega) _ rfl ?_)
                  intro g7 c7 w5 hown' hgrow hat hlt7
                  have hB5 : Below w.heap.size w w5 := (below_new hB4 _).grown hgrow (by have := hB4.size; simp; omega) (fun q hq => Nat.le_of_succ_le (own44.lt q hq).1)
                  have i05 := (i04.alloc _).grown hgrow (own_at_ne own44 (Nat.lt_succ_self _))
                  have iM5 := (iM4.alloc _).grown hgrow (fun h => (HN4 _ h).1 rfl)
                  have iS5 := (iS6.alloc _).grown hgrow (fun h => N6 _ h rfl)
                  have N7 : ∀ j, some g7 = some j → j ≠ gm ∧ j ≠ g6 := fun j hj => by
                    have hj := Option.some.inj hj
                    subst hj
                    rcases hat with h | h
                    · exact ⟨(HN4 _ h).1, N6 _ h⟩
                    · have h2 : g7 = w4.heap.size + 1 := by simpa using h
                      omega
                  clear hB4 i04 iM4 iS4 iS6 own44 hgrow hat hlt7 HN4 N6 q1
                  go_wp2
                  go_roundw
                  case rel => exact ⟨k + 1, _, g6, c6, rfl, by rw [HKS.out, hgr], by rw [HKS.out]; exact hc6, by omega, by go_num, by rw [HK.out]; exact dm_own4 hown', by rw [HKS.out]; exact iS5, N7, hB5, i05, iM5⟩
                  case measure => (simp [intOf]; omega)
                · have HK := hide (HY.out hc)
                  have HKS := hide (HSY.out (hsh.trans hc))
                  rw [hc, if_pos rfl] at hgr
                  clear hc hsh
                  generalize adO ltB eqB sl F = al at *
                  go_upto_region 11 with (first | (refine load_Board rfl _ rfl _ _ rfl (by repeat (first | (with_reducible assumption) | (with_reducible apply Has.set) | ((with_reducible apply Has.other); (case hne => (dsimp only; omega))) | (with_reducible apply Has.alloc) | (with_reducible apply Has.drew) | (with_reducible apply Has.drewN))) (by omega) ?_) | (go_at_call 93; (with_reducible refine (HADF.out _ iS).mono ?_); rintro e w4 ⟨g6, c6, rfl, hc6, iS6, hg6, hb4⟩))
                  have N6 : ∀ j, v4.ownBlock = some j → j ≠ g6 := fun j hj => by
                    rcases hg6 with h | h
                    · rw [h]; exact (N4 j hj).2.2
                    · have := (own4.lt j hj).2
                      omega
                  have hB4 := below_go hB hb4
                  have i04 := i0.call hb4
                  have iM4 := iM.call hb4
                  have iS4 := iS.call hb4
                  have own44 := own_call own4 hb4
                  have hgmw := iM4.2.2
                  have hg6w := iS6.2.2
                  have HN4 : ∀ j, v4.ownBlock = some j → j ≠ gm ∧ j ≠ g5 := fun j hj => (N4 j hj).2
                  clear hB i0 iM iS own4 hb4 hg6 N4 ci0 fi0 zi0 ciS fiS ziS ciM fiM ziM ck0 fk0 zk0 k0 jn cjn fjn zjn
                  have e1 : ¬ (sl.length : Int) < al.length := by omega
                  have e2 : (al.length : Int) ≤ sl.length := by omega
                  clear N6 iS6
                  go_wp2
                  go_roundw
                  case rel => exact ⟨k + 1, _, g5, c5, rfl, by rw [HKS.out], by rw [HKS.out]; exact hc5, by omega, by go_num, by rw [HK.out]; exact own44, by rw [HKS.out]; exact iS4, HN4, hB4, i04, iM4⟩
                  case measure => (simp [intOf]; omega)
              exact AllReadyH.nil
            exact AllReadyH.nil
          refine AllReadyH.cons (o := _) rfl (fun K hK => ?_) ?_
          ·
            go_simp
            generalize hW : World.alloc _ _ = w2
            have hB' : Below wr.heap.size wr w2 := by (rw [← hW]; exact below_new hB _)
            have i0' := Has.at hW (Has.alloc i0 _)
            have iS' := Has.at hW (Has.alloc iS _)
            have iM' := Has.at hW (Has.alloc iM _)
            have jn := Has.newat (n := 16) hW rfl
            have hbn := hB.size
            clear hW; have zn := ziM; have zni0 := zi0; have zniS := ziS; have zniM := ziM; clear hB; have hB := hB'; clear hB'; clear i0 zi0; have i0 := i0'; clear i0'; have zi0 := i0.2.2; clear iS ziS; have iS := iS'; clear iS'; have ziS := iS.2.2; clear iM ziM; have iM := iM'; clear iM'; have ziM := iM.2.2
            generalize hS : (World.heap wx).size = Bn at *
            clear hS; generalize hWW : w2 = wx at *; clear hWW
            refine hK.out _ _ ?hS5 (fun hHeld => ?_)
            case hS5 => exact ⟨rb_of i0, (iM.1 k hlt).trans (congrArg some HQ1.out)⟩
            clear hK K
            (try simp only [Act.put, List.setIfInBounds_toArray, List.set_cons_zero, List.set_cons_succ])
            refine wpAnyH_ready (rs := [5]) (by kernel_rfl) (by simp) ?_
            refine AllReadyH.cons (o := _) rfl (fun K hK => ?_) ?_
            ·
              go_simp
              refine (HSL.out _).mono ?_
              rintro e w2 ⟨rfl, hb2⟩
              (try go_wp2_with fail)
              have hB' : Below wr.heap.size wr w2 := below_go hB hb2
              have i0' := Has.call i0 hb2
              have iS' := Has.call iS hb2
              have iM' := Has.call iM hb2
              have jn' := Has.call jn hb2; clear jn; have jn := jn'; clear jn'
              clear hb2; clear hB; have hB := hB'; clear hB'; clear i0 zi0; have i0 := i0'; clear i0'; have zi0 := i0.2.2; clear iS ziS; have iS := iS'; clear iS'; have ziS := iS.2.2; clear iM ziM; have iM := iM'; clear iM'; have ziM := iM.2.2
              generalize hWW : w2 = wx at *; clear hWW
              refine hK.out _ _ ?hS6 (fun hHeld => ?_)
              case hS6 => exact ⟨rb_of i0, (iM.1 k hlt).trans (congrArg some HQ1.out)⟩
              clear hK K
              (try simp only [Act.put, List.setIfInBounds_toArray, List.set_cons_zero, List.set_cons_succ])
              refine take_d (i := 6) (some 27) (v := ?_) rfl rfl (by kernel_rfl) (by kernel_rfl) (by kernel_rfl) (fun _ _ _ h => h) (Or.inl ⟨by rfl, ?_⟩) (by assumption) ?_
              rotate_left; (intro w hSw; have hq := hSw.2; clear hSw; go_simp; try with_reducible rfl)
              all_goals (try simp only [Act.put, List.setIfInBounds_toArray, List.set_cons_zero, List.set_cons_succ])
              refine take_d (i := 7) (some 34) (v := ?_) rfl rfl (by kernel_rfl) (by kernel_rfl) (by kernel_rfl) (fun _ _ _ h => h) (Or.inl ⟨by rfl, ?_⟩) (by assumption) ?_
              rotate_left; (intro w hSw; have hq := hSw.2; clear hSw; go_simp; try with_reducible rfl)
              all_goals (try simp only [Act.put, List.setIfInBounds_toArray, List.set_cons_zero, List.set_cons_succ])
              refine take_d (i := 8) (some 35) (v := ?_) rfl rfl (by kernel_rfl) (by kernel_rfl) (by kernel_rfl) (fun _ _ _ h => h) (Or.inl ⟨by rfl, ?_⟩) (by assumption) ?_
              rotate_left; (intro w hSw; have hq := hSw.2; clear hSw; go_simp; try with_reducible rfl)
              all_goals (try simp only [Act.put, List.setIfInBounds_toArray, List.set_cons_zero, List.set_cons_succ])
              refine wpAnyH_ready (rs := [10]) (by kernel_rfl) (by simp) ?_
              refine AllReadyH.cons (o := _) rfl (fun K hK => ?_) ?_
              ·
                rw [if_pos (by rfl)]
                refine wp_store_BoardF _ _ rfl _ _ rfl rfl rfl jn ?_
                intro w3 ho3 hn3
                have hB' : Below wr.heap.size wr w3 := below_only hB ho3 (by omega)
                have i0' := Has.only i0 ho3 (by omega)
                have iS' := Has.only iS ho3 (by omega)
                have iM' := Has.only iM ho3 (by omega)
                clear jn ho3; have jn := hn3; clear hn3; clear hB; have hB := hB'; clear hB'; clear i0 zi0; have i0 := i0'; clear i0'; have zi0 := i0.2.2; clear iS ziS; have iS := iS'; clear iS'; have ziS := iS.2.2; clear iM ziM; have iM := iM'; clear iM'; have ziM := iM.2.2
                generalize hWW : w3 = wx at *; clear hWW
                refine hK.out _ _ ?hS7 (fun hHeld => ?_)
                case hS7 => exact ⟨rb_of i0, (iM.1 k hlt).trans (congrArg some HQ1.out)⟩
                clear hK K
                (try simp only [Act.put, List.setIfInBounds_toArray, List.set_cons_zero, List.set_cons_succ])
                refine take_d (i := 11) (some 9) (v := ?_) rfl rfl (by kernel_rfl) (by kernel_rfl) (by kernel_rfl) (fun _ _ _ h => h) (Or.inl ⟨by rfl, ?_⟩) (by assumption) ?_
                rotate_left; (intro w hSw; have hq := hSw.2; clear hSw; go_simp; try with_reducible rfl)
                all_goals (try simp only [Act.put, List.setIfInBounds_toArray, List.set_cons_zero, List.set_cons_succ])
                refine wpAnyH_done (by kernel_rfl) ?_ _
                refine NoPanic.normal ?_
                have own4' := own_call own4 hB
                have hB' := below_go hB0 hB
                have N4 : ∀ j, v4.ownBlock = some j → j < Bn ∧ j ≠ gm ∧ j ≠ g5 := fun j hj => ⟨Nat.lt_of_lt_of_le (own4.lt j hj).2 hbn, n4 j hj⟩
                clear own4 hB hB0 n4 q1
                have own4 := own4'; have hB := hB'
                clear own4' hB'
                have ci0 := i0.1; have fi0 := i0.2.1; have zi0 := i0.2.2; have ciS := iS.1; have fiS := iS.2.1; have ziS := iS.2.2; have ciM := iM.1; have fiM := iM.2.1; have ziM := iM.2.2; have cjn := jn.1; have fjn := jn.2.1; have zjn := jn.2.2
                go_upto_region 10 with (first | (refine load_Board rfl _ rfl _ _ rfl (by repeat (first | (with_reducible assumption) | (with_reducible apply Has.set) | ((with_reducible apply Has.other); (case hne => (dsimp only; omega))) | (with_reducible apply Has.alloc) | (with_reducible apply Has.drew) | (with_reducible apply Has.drewN))) (by omega) ?_) | (go_at_call 88; (with_reducible refine (HFS.out _).mono ?_); rintro e w2 ⟨rfl, hb2⟩; have own4' := own_call own4 hb2; clear own4; have own4 := own4'; clear own4'; have hB' : Below w.heap.size w w2 := below_go (by repeat (first | (with_reducible exact Below.refl _ _) | (with_reducible assumption) | (with_reducible refine below_go ?_ (by with_reducible assumption)) | (with_reducible refine below_new ?_ _) | ((with_reducible refine below_put ?_ ?_ _); rotate_left; (dsimp only; omega)) | (with_reducible refine Below.drew ?_) | (with_reducible refine below_dn ?_ _))) hb2; have i0' : Has w2 (w.heap.size) 16 _ := Has.call (by repeat (first | (with_reducible assumption) | (with_reducible apply Has.set) | ((with_reducible apply Has.other); (case hne => (dsimp only; omega))) | (with_reducible apply Has.alloc) | (with_reducible apply Has.drew) | (with_reducible apply Has.drewN))) hb2; have iS' : Has w2 (g5) (sl.length * 16) _ := Has.call (by repeat (first | (with_reducible assumption) | (with_reducible apply Has.set) | ((with_reducible apply Has.other); (case hne => (dsimp only; omega))) | (with_reducible apply Has.alloc) | (with_reducible apply Has.drew) | (with_reducible apply Has.drewN))) hb2; have iM' : Has w2 (gm) n _ := Has.call (by repeat (first | (with_reducible assumption) | (with_reducible apply Has.set) | ((with_reducible apply Has.other); (case hne => (dsimp only; omega))) | (with_reducible apply Has.alloc) | (with_reducible apply Has.drew) | (with_reducible apply Has.drewN))) hb2; have jn' : Has w2 (Bn) 16 _ := Has.call (by repeat (first | (with_reducible assumption) | (with_reducible apply Has.set) | ((with_reducible apply Has.other); (case hne => (dsimp only; omega))) | (with_reducible apply Has.alloc) | (with_reducible apply Has.drew) | (with_reducible apply Has.drewN))) hb2; clear hB hb2; have hB := hB'; clear hB'; (try clear fi0); (try clear zi0); (try clear ci0); clear i0; have i0 := i0'; clear i0'; have ci0 := i0.1; have fi0 := i0.2.1; have zi0 := i0.2.2; (try clear fiS); (try clear ziS); (try clear ciS); clear iS; have iS := iS'; clear iS'; have ciS := iS.1; have fiS := iS.2.1; have ziS := iS.2.2; (try clear fiM); (try clear ziM); (try clear ciM); clear iM; have iM := iM'; clear iM'; have ciM := iM.1; have fiM := iM.2.1; have ziM := iM.2.2; (try clear fjn); (try clear zjn); (try clear cjn); clear jn; have jn := jn'; clear jn'; have cjn := jn.1; have fjn := jn.2.1; have zjn := jn.2.2))
                generalize hW : (World.alloc w2 _) = w1
                have hB' : Below w.heap.size w w1 := by (rw [← hW]; exact (by repeat (first | (with_reducible exact Below.refl _ _) | (with_reducible assumption) | (with_reducible refine below_go ?_ (by with_reducible assumption)) | (with_reducible refine below_new ?_ _) | ((with_reducible refine below_put ?_ ?_ _); rotate_left; (dsimp only; omega)) | (with_reducible refine Below.drew ?_) | (with_reducible refine below_dn ?_ _))))
                have i0' := Has.at hW (B := w.heap.size) (n := 16) (by repeat (first | (with_reducible assumption) | (with_reducible apply Has.set) | ((with_reducible apply Has.other); (case hne => (dsimp only; omega))) | (with_reducible apply Has.alloc) | (with_reducible apply Has.drew) | (with_reducible apply Has.drewN)))
                have iS' := Has.at hW (B := g5) (n := (sl.length * 16)) (by repeat (first | (with_reducible assumption) | (with_reducible apply Has.set) | ((with_reducible apply Has.other); (case hne => (dsimp only; omega))) | (with_reducible apply Has.alloc) | (with_reducible apply Has.drew) | (with_reducible apply Has.drewN)))
                have iM' := Has.at hW (B := gm) (n := n) (by repeat (first | (with_reducible assumption) | (with_reducible apply Has.set) | ((with_reducible apply Has.other); (case hne => (dsimp only; omega))) | (with_reducible apply Has.alloc) | (with_reducible apply Has.drew) | (with_reducible apply Has.drewN)))
                have jn' := Has.at hW (B := Bn) (n := 16) (by repeat (first | (with_reducible assumption) | (with_reducible apply Has.set) | ((with_reducible apply Has.other); (case hne => (dsimp only; omega))) | (with_reducible apply Has.alloc) | (with_reducible apply Has.drew) | (with_reducible apply Has.drewN)))
                have k0 := Has.at hW (n := 16) (Has.new' rfl)
                try simp only [World.size_alloc] at k0
                have own4' := own_at hW own4; clear own4; have own4 := own4'; clear own4'
                clear hW; clear hB; have hB := hB'; clear hB'; (try clear fi0); (try clear zi0); (try clear ci0); clear i0; have i0 := i0'; clear i0'; have ci0 := i0.1; have fi0 := i0.2.1; have zi0 := i0.2.2; (try clear fiS); (try clear ziS); (try clear ciS); clear iS; have iS := iS'; clear iS'; have ciS := iS.1; have fiS := iS.2.1; have ziS := iS.2.2; (try clear fiM); (try clear ziM); (try clear ciM); clear iM; have iM := iM'; clear iM'; have ciM := iM.1; have fiM := iM.2.1; have ziM := iM.2.2; (try clear fjn); (try clear zjn); (try clear cjn); clear jn; have jn := jn'; clear jn'; have cjn := jn.1; have fjn := jn.2.1; have zjn := jn.2.2; have ck0 := k0.1; have fk0 := k0.2.1; have zk0 := k0.2.2
                generalize hS : w2.heap.size = B9 at *
                clear hS
                have k0 := k0.congr (d := fun o => .int .i64 (F o)) (fun o ho => lit16' F o ho)
                clear ck0; have ck0 := k0.1
                have HADF := hide (fun w h => HAD.out w F h)
                clear HAD
                have hgr := HGR.out
                have hsh := HSH.out F
                cases hc : hasO eqB (dmP b L k).2 F
                · have HK := hide (HNO.out hc)
                  have HKS := hide (HSN.out (hsh.trans hc))
                  rw [hc, if_neg Bool.false_ne_true] at hgr
                  clear hc hsh
                  generalize adO ltB eqB sl F = al at *
                  go_upto_region 11 with (first | (refine load_Board rfl _ rfl _ _ rfl (by repeat (first | (with_reducible assumption) | (with_reducible apply Has.set) | ((with_reducible apply Has.other); (case hne => (dsimp only; omega))) | (with_reducible apply Has.alloc) | (with_reducible apply Has.drew) | (with_reducible apply Has.drewN))) (by omega) ?_) | (go_at_call 93; (with_reducible refine (HADF.out _ iS).mono ?_); rintro e w4 ⟨g6, c6, rfl, hc6, iS6, hg6, hb4⟩))
                  have N6 : ∀ j, v4.ownBlock = some j → j ≠ g6 := fun j hj => by
                    rcases hg6 with h | h
                    · rw [h]; exact (N4 j hj).2.2
                    · have := (own4.lt j hj).2
                      omega
                  have hB4 := below_go hB hb4
                  have i04 := i0.call hb4
                  have iM4 := iM.call hb4
                  have iS4 := iS.call hb4
                  have own44 := own_call own4 hb4
                  have hgmw := iM4.2.2
                  have hg6w := iS6.2.2
                  have HN4 : ∀ j, v4.ownBlock = some j → j ≠ gm ∧ j ≠ g5 := fun j hj => (N4 j hj).2
                  clear hB i0 iM iS own4 hb4 hg6 N4 ci0 fi0 zi0 ciS fiS ziS ciM fiM ziM ck0 fk0 zk0 k0 jn cjn fjn zjn
                  have q1 : w4.cell? ⟨gm, k, none⟩ = some (.int .i64 (d : Int)) := (iM4.1 k hlt).trans (congrArg some HQ1.out)
                  have e1 : (sl.length : Int) < al.length := by omega
                  have hz4 : w.heap.size < w4.heap.size := i04.2.2
                  go_wp2_with (at_builtin; refine wpList_append_lies _ rfl _ _ _ rfl (w.heap.size + 1) 3 i0s (.int .i64 0) 1 8 Try.underlying35 hi0 hz0 hz1 hz2 rfl (by decide) _ _ _ rfl (own44.alloc _) ⟨w4.heap.size, 0, none⟩ 1 1 [.int .i64 (d : Int)] rfl rfl one_cell (fun u hu => by simp at hu; subst hu; rfl) (by decide) (by unfold maxLen; omega) (by omega) (by simp; omega) _ rfl ?_)
                  intro g7 c7 w5 hown' hgrow hat hlt7
                  have hB5 : Below w.heap.size w w5 := (below_new hB4 _).grown hgrow (by have := hB4.size; simp; omega) (fun q hq => Nat.le_of_succ_le (own44.lt q hq).1)
                  have i05 := (i04.alloc _).grown hgrow (own_at_ne own44 (Nat.lt_succ_self _))
                  have iM5 := (iM4.alloc _).grown hgrow (fun h => (HN4 _ h).1 rfl)
                  have iS5 := (iS6.alloc _).grown hgrow (fun h => N6 _ h rfl)
                  have N7 : ∀ j, some g7 = some j → j ≠ gm ∧ j ≠ g6 := fun j hj => by
                    have hj := Option.some.inj hj
                    subst hj
                    rcases hat with h | h
                    · exact ⟨(HN4 _ h).1, N6 _ h⟩
                    · have h2 : g7 = w4.heap.size + 1 := by simpa using h
                      omega
                  clear hB4 i04 iM4 iS4 iS6 own44 hgrow hat hlt7 HN4 N6 q1
                  go_wp2
                  go_roundw
                  case rel => exact ⟨k + 1, _, g6, c6, rfl, by rw [HKS.out, hgr], by rw [HKS.out]; exact hc6, by omega, by go_num, by rw [HK.out]; exact dm_own4 hown', by rw [HKS.out]; exact iS5, N7, hB5, i05, iM5⟩
                  case measure => (simp [intOf]; omega)
                · have HK := hide (HY.out hc)
                  have HKS := hide (HSY.out (hsh.trans hc))
                  rw [hc, if_pos rfl] at hgr
                  clear hc hsh
                  generalize adO ltB eqB sl F = al at *
                  go_upto_region 11 with (first | (refine load_Board rfl _ rfl _ _ rfl (by repeat (first | (with_reducible assumption) | (with_reducible apply Has.set) | ((with_reducible apply Has.other); (case hne => (dsimp only; omega))) | (with_reducible apply Has.alloc) | (with_reducible apply Has.drew) | (with_reducible apply Has.drewN))) (by omega) ?_) | (go_at_call 93; (with_reducible refine (HADF.out _ iS).mono ?_); rintro e w4 ⟨g6, c6, rfl, hc6, iS6, hg6, hb4⟩))
                  have N6 : ∀ j, v4.ownBlock = some j → j ≠ g6 := fun j hj => by
                    rcases hg6 with h | h
                    · rw [h]; exact (N4 j hj).2.2
                    · have := (own4.lt j hj).2
                      omega
                  have hB4 := below_go hB hb4
                  have i04 := i0.call hb4
                  have iM4 := iM.call hb4
                  have iS4 := iS.call hb4
                  have own44 := own_call own4 hb4
                  have hgmw := iM4.2.2
                  have hg6w := iS6.2.2
                  have HN4 : ∀ j, v4.ownBlock = some j → j ≠ gm ∧ j ≠ g5 := fun j hj => (N4 j hj).2
                  clear hB i0 iM iS own4 hb4 hg6 N4 ci0 fi0 zi0 ciS fiS ziS ciM fiM ziM ck0 fk0 zk0 k0 jn cjn fjn zjn
                  have e1 : ¬ (sl.length : Int) < al.length := by omega
                  have e2 : (al.length : Int) ≤ sl.length := by omega
                  clear N6 iS6
                  go_wp2
                  go_roundw
                  case rel => exact ⟨k + 1, _, g5, c5, rfl, by rw [HKS.out], by rw [HKS.out]; exact hc5, by omega, by go_num, by rw [HK.out]; exact own44, by rw [HKS.out]; exact iS4, HN4, hB4, i04, iM4⟩
                  case measure => (simp [intOf]; omega)
              exact AllReadyH.nil
            exact AllReadyH.nil
          exact AllReadyH.nil
        · obtain rfl : k = n := by omega
          obtain ⟨A, cap, rfl, hS⟩ := ints_sl own4
          clear own4
          go_wp2
          go_ret2
          exact ⟨_, _, rfl, hS.mono (Nat.le_succ _), hB⟩

end Go.Proofs.Ytmjehagmgifchaa
