/-
  Contract: slices.Contains at boards; DistinctMoves, the program's.
-/
import Derived.Test.YtmjehagmgifchaaDmR
import Derived.Test.YtmjehagmgifchaaDmP
import Derived.Test.YtmjehagmgifchaaMovesQ
namespace Go.Proofs.Ytmjehagmgifchaa
open Go.RowKit

theorem ix_has {l : List (Nat → Int)} {c : Nat → Int} {i : Int} (h : Ix (atL l) l.length c i) : decide (0 ≤ i) = hasO eqB l c := by
  rcases h with ⟨rfl, hall⟩ | ⟨m, hm, rfl, he, _⟩
  · have : hasO eqB l c = false := by
      cases e : hasO eqB l c
      · rfl
      · obtain ⟨a, ha, hac⟩ := hasO_iff.1 e
        obtain ⟨j, hj, rfl⟩ := List.mem_iff_getElem.1 ha
        have := hall j hj
        rw [eqB_comm] at this
        have e2 : atL l j = l[j] := by simp [atL, hj]
        rw [e2, hac] at this; cases this
    rw [this]; rfl
  · have : hasO eqB l c = true := hasO_iff.2 ⟨l[m], List.getElem_mem hm, by
      have e2 : atL l m = l[m] := by simp [atL, hm]
      rw [← e2, eqB_comm]; exact he⟩
    rw [this]; exact decide_eq_true (by omega)

set_option maxHeartbeats 4000000 in
set_option maxRecDepth 100000 in
theorem containsB_any (l : List (Nat → Int)) (hl : l.length ≤ 100) (c : Nat → Int) (A : Option Addr) (cap base : Nat) (w : World) (hS : Sl w base A (l.length * 16) (bsC l)) :
    Calls Try.prog 96 #[.slice A l.length cap, .agg #[.int .i64 (c 0), .int .i64 (c 1), .int .i64 (c 2), .int .i64 (c 3), .int .i64 (c 4), .int .i64 (c 5), .int .i64 (c 6), .int .i64 (c 7), .int .i64 (c 8), .int .i64 (c 9), .int .i64 (c 10), .int .i64 (c 11), .int .i64 (c 12), .int .i64 (c 13), .int .i64 (c 14), .int .i64 (c 15)]] w fun e w' => e = .returned (.bool (hasO eqB l c)) ∧ Below w.heap.size w w' := by
  have HX := hide (fun (w' : World) (hb : Below w.heap.size w w') => indexB_any (atL l) c A l.length cap (show l.length ≤ 802963914769 by omega) base w' (hS.call hb))
  have HH := hide (fun (i : Int) (h : Ix (atL l) l.length c i) => ix_has h)
  clear hS
  generalize hasO eqB l c = r at *
  go_enter Try.func96, Try.ntmps96
  go_upto_region 1 with (fail)
  generalize hW : w.alloc _ = w1
  have hB : Below w.heap.size w w1 := by (rw [← hW]; exact (by repeat (first | (with_reducible exact Below.refl _ _) | (with_reducible assumption) | (with_reducible refine below_go ?_ (by with_reducible assumption)) | (with_reducible refine below_new ?_ _) | ((with_reducible refine below_put ?_ ?_ _); rotate_left; (dsimp only; omega)) | (with_reducible refine Below.drew ?_) | (with_reducible refine below_dn ?_ _))))
  have hsz : Hid (w1.heap.size = w.heap.size + 1) := hide (by rw [← hW]; simp)
  have i0 : Has w1 (w.heap.size) 16 (fun o => .int .i64 (c o)) := by (rw [← hW]; repeat (first | (refine Has.new ?_ rfl; simp; done) | refine Has.alloc ?_ _))
  have ci0 := i0.1; have fi0 := i0.2.1; have zi0 := i0.2.2
  clear hW
  go_wp2_with (first | (refine load_Board rfl _ rfl _ _ rfl (by repeat (first | (with_reducible assumption) | (with_reducible apply Has.set) | ((with_reducible apply Has.other); (case hne => (dsimp only; omega))) | (with_reducible apply Has.alloc) | (with_reducible apply Has.drew) | (with_reducible apply Has.drewN))) (by omega) ?_) | (go_at_call 151; (with_reducible refine (HX.out _ hB).mono ?_); rintro e w2 ⟨i, rfl, hix, hb2⟩; have hii := HH.out i hix; clear hix; have hB' : Below w.heap.size w w2 := below_go (by repeat (first | (with_reducible exact Below.refl _ _) | (with_reducible assumption) | (with_reducible refine below_go ?_ (by with_reducible assumption)) | (with_reducible refine below_new ?_ _) | ((with_reducible refine below_put ?_ ?_ _); rotate_left; (dsimp only; omega)) | (with_reducible refine Below.drew ?_) | (with_reducible refine below_dn ?_ _))) hb2; have i0' : Has w2 (w.heap.size) 16 _ := Has.call (by repeat (first | (with_reducible assumption) | (with_reducible apply Has.set) | ((with_reducible apply Has.other); (case hne => (dsimp only; omega))) | (with_reducible apply Has.alloc) | (with_reducible apply Has.drew) | (with_reducible apply Has.drewN))) hb2; clear hB hb2; have hB := hB'; clear hB'; (try clear fi0); (try clear zi0); (try clear ci0); clear i0; have i0 := i0'; clear i0'; have ci0 := i0.1; have fi0 := i0.2.1; have zi0 := i0.2.2))
  go_ret
  exact ⟨rfl, (by repeat (first | (with_reducible exact Below.refl _ _) | (with_reducible assumption) | (with_reducible refine below_go ?_ (by with_reducible assumption)) | (with_reducible refine below_new ?_ _) | ((with_reducible refine below_put ?_ ?_ _); rotate_left; (dsimp only; omega)) | (with_reducible refine Below.drew ?_) | (with_reducible refine below_dn ?_ _)))⟩

theorem containsB_own (l : List (Nat → Int)) (hl : l.length ≤ 100) (c : Nat → Int) (v : Value) (base : Nat) (w : World) (h : w.ownsRow base 25 16 v l.length (bsV l)) :
    Calls Try.prog 96 #[v, .agg #[.int .i64 (c 0), .int .i64 (c 1), .int .i64 (c 2), .int .i64 (c 3), .int .i64 (c 4), .int .i64 (c 5), .int .i64 (c 6), .int .i64 (c 7), .int .i64 (c 8), .int .i64 (c 9), .int .i64 (c 10), .int .i64 (c 11), .int .i64 (c 12), .int .i64 (c 13), .int .i64 (c 14), .int .i64 (c 15)]] w fun e w' => e = .returned (.bool (hasO eqB l c)) ∧ Below w.heap.size w w' := by
  obtain ⟨A, cap, rfl, _, hS⟩ := bs_sl h
  exact containsB_any l hl c A cap base w hS
theorem one_box {w : World} {B : Nat} {x : Value} (h : Has w B 1 (fun o => (#[x] : Array Value).getD o undef)) : ∀ (j : Nat) (u : Value), ([x] : List Value)[j]? = some u → w.cell? ((⟨B, 0, none⟩ : Addr).add j) = some u := by
  intro j u hj
  have hlt : j < 1 := by have := (List.getElem?_eq_some_iff.1 hj).1; simpa using this
  have : j = 0 := by omega
  subst this
  rw [Addr.add_lit, h.1 0 (by omega)]
  simpa using hj

theorem dm_own4 {w : World} {base : Nat} {v : Value} {l : List Nat} {d : Nat} (h : w.ownsRow base 3 1 v (l.length + 1) (ints l ++ [.int .i64 (d : Int)])) : w.ownsRow base 3 1 v (l ++ [d]).length (ints (l ++ [d])) := by
  rw [ints_snoc, List.length_append]; exact h
theorem dm_own5 {w : World} {base : Nat} {v : Value} {l : List (Nat → Int)} {F : Nat → Int} (h : w.ownsRow base 25 16 v (l.length + 1) (bsV l ++ c16 F)) : w.ownsRow base 25 16 v (l ++ [F]).length (bsV (l ++ [F])) := by
  rw [bsV_snoc, List.length_append]; exact h
theorem slides_one (b : Nat → Int) (hb : In17 b 16) (d : Nat) (hd : d < 4) (g : Nat) (w : World) (h : Has w g 1 (fun o => (#[Value.int .i64 (d : Int)] : Array Value).getD o undef)) :
    Calls Try.prog 95 #[.agg #[.int .i64 (b 0), .int .i64 (b 1), .int .i64 (b 2), .int .i64 (b 3), .int .i64 (b 4), .int .i64 (b 5), .int .i64 (b 6), .int .i64 (b 7), .int .i64 (b 8), .int .i64 (b 9), .int .i64 (b 10), .int .i64 (b 11), .int .i64 (b 12), .int .i64 (b 13), .int .i64 (b 14), .int .i64 (b 15)], .slice (some ⟨g, 0, none⟩) 1 1] w fun e w' => e = .returned (.agg #[.int .i64 ((slB b d) 0), .int .i64 ((slB b d) 1), .int .i64 ((slB b d) 2), .int .i64 ((slB b d) 3), .int .i64 ((slB b d) 4), .int .i64 ((slB b d) 5), .int .i64 ((slB b d) 6), .int .i64 ((slB b d) 7), .int .i64 ((slB b d) 8), .int .i64 ((slB b d) 9), .int .i64 ((slB b d) 10), .int .i64 ((slB b d) 11), .int .i64 ((slB b d) 12), .int .i64 ((slB b d) 13), .int .i64 ((slB b d) 14), .int .i64 ((slB b d) 15)]) ∧ Below w.heap.size w w' := by
  refine slides_any b hb [d] (fun x hx => ?_) (by simp) g 1 w (h.congr fun o ho => ?_)
  · simp at hx; subst hx; exact hd
  · have h0 : o = 0 := by omega
    subst h0; rfl

set_option maxHeartbeats 16000000 in
set_option maxRecDepth 100000 in
theorem distinctMoves_own (b : Nat → Int) (w : World) : Calls Try.prog 18 #[.agg #[.int .i64 (b 0), .int .i64 (b 1), .int .i64 (b 2), .int .i64 (b 3), .int .i64 (b 4), .int .i64 (b 5), .int .i64 (b 6), .int .i64 (b 7), .int .i64 (b 8), .int .i64 (b 9), .int .i64 (b 10), .int .i64 (b 11), .int .i64 (b 12), .int .i64 (b 13), .int .i64 (b 14), .int .i64 (b 15)]] w fun e w' => ∃ A cap, e = .returned (.tuple #[.slice A (dmO b).length cap, .bool (bdB b)]) ∧ Sl w' w.heap.size A (dmO b).length (fI (dmO b)) ∧ Below w.heap.size w w' := by
  cases hb : bdB b
  · have e0 : dmO b = [] := by simp [dmO, hb]
    rw [e0]
    clear e0
    go_enter Try.func18, Try.ntmps18
    go_upto_region 1 with (fail)
    generalize hW : w.alloc _ = w1
    have hB : Below w.heap.size w w1 := by (rw [← hW]; exact (by repeat (first | (with_reducible exact Below.refl _ _) | (with_reducible assumption) | (with_reducible refine below_go ?_ (by with_reducible assumption)) | (with_reducible refine below_new ?_ _) | ((with_reducible refine below_put ?_ ?_ _); rotate_left; (dsimp only; omega)) | (with_reducible refine Below.drew ?_) | (with_reducible refine below_dn ?_ _))))
    have hsz : Hid (w1.heap.size = w.heap.size + 1) := hide (by rw [← hW]; simp)
    have i0 : Has w1 (w.heap.size) 16 (fun o => .int .i64 (b o)) := by (rw [← hW]; repeat (first | (refine Has.new ?_ rfl; simp; done) | refine Has.alloc ?_ _))
    have ci0 := i0.1; have fi0 := i0.2.1; have zi0 := i0.2.2
    clear hW
    go_wp2_with (first | (go_at_call 50; (with_reducible refine (Calls.bool_as (isBoard_any b _) hb).mono ?_); rintro e w2 ⟨rfl, hb2⟩; have hB' : Below w.heap.size w w2 := below_go (by repeat (first | (with_reducible exact Below.refl _ _) | (with_reducible assumption) | (with_reducible refine below_go ?_ (by with_reducible assumption)) | (with_reducible refine below_new ?_ _) | ((with_reducible refine below_put ?_ ?_ _); rotate_left; (dsimp only; omega)) | (with_reducible refine Below.drew ?_) | (with_reducible refine below_dn ?_ _))) hb2; have i0' : Has w2 (w.heap.size) 16 _ := Has.call (by repeat (first | (with_reducible assumption) | (with_reducible apply Has.set) | ((with_reducible apply Has.other); (case hne => (dsimp only; omega))) | (with_reducible apply Has.alloc) | (with_reducible apply Has.drew) | (with_reducible apply Has.drewN))) hb2; clear hB hb2; have hB := hB'; clear hB'; (try clear fi0); (try clear zi0); (try clear ci0); clear i0; have i0 := i0'; clear i0'; have ci0 := i0.1; have fi0 := i0.2.1; have zi0 := i0.2.2) | (refine load_Board rfl _ rfl _ _ rfl (by repeat (first | (with_reducible assumption) | (with_reducible apply Has.set) | ((with_reducible apply Has.other); (case hne => (dsimp only; omega))) | (with_reducible apply Has.alloc) | (with_reducible apply Has.drew) | (with_reducible apply Has.drewN))) (by omega) ?_))
    go_ret2
    exact ⟨_, _, rfl, sl_zero _ _ _ _, (by repeat (first | (with_reducible exact Below.refl _ _) | (with_reducible assumption) | (with_reducible refine below_go ?_ (by with_reducible assumption)) | (with_reducible refine below_new ?_ _) | ((with_reducible refine below_put ?_ ?_ _); rotate_left; (dsimp only; omega)) | (with_reducible refine Below.drew ?_) | (with_reducible refine below_dn ?_ _)))⟩
  · have HB := hide (bdB_in hb)
    have e0 := hide (show dmO b = (dmP b (mvL b 4) (mvL b 4).length).1 from if_pos hb)
    rw [e0.out]
    obtain ⟨i0s, hi0, hz0, hz1, hz2⟩ := info_parts info_int3
    obtain ⟨i1s, hj0, hj1, hj2, hj3⟩ := info_parts info_Bd3
    have hn4 := mvL_len b 4
    have HD := hide (fun i (h : i < (mvL b 4).length) => mv_at h)
    have HMV : Hid (∀ w : World, Calls Try.prog 94 #[.agg #[.int .i64 (b 0), .int .i64 (b 1), .int .i64 (b 2), .int .i64 (b 3), .int .i64 (b 4), .int .i64 (b 5), .int .i64 (b 6), .int .i64 (b 7), .int .i64 (b 8), .int .i64 (b 9), .int .i64 (b 10), .int .i64 (b 11), .int .i64 (b 12), .int .i64 (b 13), .int .i64 (b 14), .int .i64 (b 15)]] w fun e w' => ∃ v, e = .returned v ∧ w'.ownsRow w.heap.size 3 1 v (mvL b 4).length (ints (mvL b 4)) ∧ Below w.heap.size w w') := fun w => moves_own b HB.out w
    generalize mvL b 4 = L at *
    have HIS := hide (fun (w : World) (base : Nat) (v : Value) (h : w.ownsRow base 3 1 v L.length (ints L)) => ints_sl h)
    generalize hn : L.length = n at *
    have HN := hide hn
    clear hn
    go_enter Try.func18, Try.ntmps18
    go_upto_region 1 with (fail)
    generalize hW : w.alloc _ = w1
    have hB : Below w.heap.size w w1 := by (rw [← hW]; exact (by repeat (first | (with_reducible exact Below.refl _ _) | (with_reducible assumption) | (with_reducible refine below_go ?_ (by with_reducible assumption)) | (with_reducible refine below_new ?_ _) | ((with_reducible refine below_put ?_ ?_ _); rotate_left; (dsimp only; omega)) | (with_reducible refine Below.drew ?_) | (with_reducible refine below_dn ?_ _))))
    have hsz : Hid (w1.heap.size = w.heap.size + 1) := hide (by rw [← hW]; simp)
    have i0 : Has w1 (w.heap.size) 16 (fun o => .int .i64 (b o)) := by (rw [← hW]; repeat (first | (refine Has.new ?_ rfl; simp; done) | refine Has.alloc ?_ _))
    have ci0 := i0.1; have fi0 := i0.2.1; have zi0 := i0.2.2
    clear hW
    go_upto_region 4 with (first | (go_at_call 50; (with_reducible refine (Calls.bool_as (isBoard_any b _) hb).mono ?_); rintro e w2 ⟨rfl, hb2⟩; have hB' : Below w.heap.size w w2 := below_go (by repeat (first | (with_reducible exact Below.refl _ _) | (with_reducible assumption) | (with_reducible refine below_go ?_ (by with_reducible assumption)) | (with_reducible refine below_new ?_ _) | ((with_reducible refine below_put ?_ ?_ _); rotate_left; (dsimp only; omega)) | (with_reducible refine Below.drew ?_) | (with_reducible refine below_dn ?_ _))) hb2; have i0' : Has w2 (w.heap.size) 16 _ := Has.call (by repeat (first | (with_reducible assumption) | (with_reducible apply Has.set) | ((with_reducible apply Has.other); (case hne => (dsimp only; omega))) | (with_reducible apply Has.alloc) | (with_reducible apply Has.drew) | (with_reducible apply Has.drewN))) hb2; clear hB hb2; have hB := hB'; clear hB'; (try clear fi0); (try clear zi0); (try clear ci0); clear i0; have i0 := i0'; clear i0'; have ci0 := i0.1; have fi0 := i0.2.1; have zi0 := i0.2.2) | (refine load_Board rfl _ rfl _ _ rfl (by repeat (first | (with_reducible assumption) | (with_reducible apply Has.set) | ((with_reducible apply Has.other); (case hne => (dsimp only; omega))) | (with_reducible apply Has.alloc) | (with_reducible apply Has.drew) | (with_reducible apply Has.drewN))) (by omega) ?_))
    generalize hW : (w2.alloc _).alloc _ = w3
    have hB' : Below w.heap.size w w3 := by (rw [← hW]; exact (by repeat (first | (with_reducible exact Below.refl _ _) | (with_reducible assumption) | (with_reducible refine below_go ?_ (by with_reducible assumption)) | (with_reducible refine below_new ?_ _) | ((with_reducible refine below_put ?_ ?_ _); rotate_left; (dsimp only; omega)) | (with_reducible refine Below.drew ?_) | (with_reducible refine below_dn ?_ _))))
    have own4 : w3.ownsRow (w.heap.size + 1) 3 1 (.slice (some ⟨w2.heap.size, 0, none⟩) 0 0) 0 (ints []) := by (rw [← hW]; exact (World.ownsRow_made w2 #[] 0 zi0 (Nat.zero_le _) rfl).alloc _)
    have own5 : w3.ownsRow (w.heap.size + 1) 25 16 (.slice (some ⟨w2.heap.size + 1, 0, none⟩) 0 0) 0 (bsV []) := by
      have h := World.ownsRow_made (size := 16) (e := 25) (base := w.heap.size + 1) (w2.alloc (.cells #[] 3)) #[] 0 (by simp; omega) (Nat.zero_le _) rfl
      simp only [World.size_alloc] at h
      rw [← hW]; exact h
    have i0' : Has w3 w.heap.size 16 (fun o => .int .i64 (b o)) := by (rw [← hW]; exact (i0.alloc _).alloc _)
    have hE4 : w2.heap.size + 1 < w3.heap.size := by (rw [← hW]; simp)
    clear hB i0 ci0 fi0 zi0 hW
    have hB := hB'; have i0 := i0'
    clear hB' i0'
    have zi0 := i0.2.2; have ci0 := i0.1; have fi0 := i0.2.1
    generalize hE : w2.heap.size = E4 at *
    clear hE
    go_upto_region 5 with (first | (refine load_Board rfl _ rfl _ _ rfl (by repeat (first | (with_reducible assumption) | (with_reducible apply Has.set) | ((with_reducible apply Has.other); (case hne => (dsimp only; omega))) | (with_reducible apply Has.alloc) | (with_reducible apply Has.drew) | (with_reducible apply Has.drewN))) (by omega) ?_) | (go_at_call 94; (with_reducible refine (HMV.out _).mono ?_); rintro e w2 ⟨v, rfl, hown, hb2⟩; obtain ⟨A, cap, rfl, hS⟩ := HIS.out _ _ _ hown; clear hown; have hgs := hb2.size; have own4' := own_call own4 hb2; have own5' := own_call own5 hb2; clear own4 own5; have own4 := own4'; have own5 := own5'; clear own4' own5'; have hB' : Below w.heap.size w w2 := below_go (by repeat (first | (with_reducible exact Below.refl _ _) | (with_reducible assumption) | (with_reducible refine below_go ?_ (by with_reducible assumption)) | (with_reducible refine below_new ?_ _) | ((with_reducible refine below_put ?_ ?_ _); rotate_left; (dsimp only; omega)) | (with_reducible refine Below.drew ?_) | (with_reducible refine below_dn ?_ _))) hb2; have i0' : Has w2 (w.heap.size) 16 _ := Has.call (by repeat (first | (with_reducible assumption) | (with_reducible apply Has.set) | ((with_reducible apply Has.other); (case hne => (dsimp only; omega))) | (with_reducible apply Has.alloc) | (with_reducible apply Has.drew) | (with_reducible apply Has.drewN))) hb2; clear hB hb2; have hB := hB'; clear hB'; (try clear fi0); (try clear zi0); (try clear ci0); clear i0; have i0 := i0'; clear i0'; have ci0 := i0.1; have fi0 := i0.2.1; have zi0 := i0.2.2))
    rcases Nat.eq_zero_or_pos n with h0 | h0
    · subst h0
      clear hS own5
      refine wp_loop_rounds 1 ?_
      rw [rounds_succ]
      go_wp2
      go_ret2
      exact ⟨_, _, rfl, sl_zero _ _ _ _, (by repeat (first | (with_reducible exact Below.refl _ _) | (with_reducible assumption) | (with_reducible refine below_go ?_ (by with_reducible assumption)) | (with_reducible refine below_new ?_ _) | ((with_reducible refine below_put ?_ ?_ _); rotate_left; (dsimp only; omega)) | (with_reducible refine Below.drew ?_) | (with_reducible refine below_dn ?_ _)))⟩
    · obtain ⟨gm, rfl, hgm, iM⟩ := hS h0
      clear hS
      have hEg : E4 + 1 < gm := by omega
      have ziM := iM.2.2
      clear hgm hgs hE4 ci0 fi0
      go_wp2_with fail
      go_loopw [4, 5, 18] (fun v4 v5 i wr => ∃ (k : Nat) (u4 u5 : Value), u4 = v4 ∧ u5 = v5 ∧ k ≤ n ∧ i = .int .i64 k ∧ wr.ownsRow (w.heap.size + 1) 3 1 u4 (dmP b L k).1.length (ints (dmP b L k).1) ∧ wr.ownsRow (w.heap.size + 1) 25 16 u5 (dmP b L k).2.length (bsV (dmP b L k).2) ∧ (∀ j, u4.ownBlock = some j → j ≠ gm) ∧ (∀ j, u5.ownBlock = some j → j ≠ gm) ∧ Below w.heap.size w wr ∧ Has wr w.heap.size 16 (fun o => .int .i64 (b o)) ∧ Has wr gm n (fI L)) (fun _ _ i _ => n - (intOf i).toNat)
      case atStart => exact ⟨0, _, _, rfl, rfl, by omega, rfl, own4, own5, (fun j hj => by have := Option.some.inj (show some E4 = some j from hj); omega), (fun j hj => by have := Option.some.inj (show some (E4 + 1) = some j from hj); omega), hB, i0, iM⟩
      case round =>
        clear own4 own5 hB i0 iM ziM zi0
        rename_i v4 v5 _
        obtain ⟨k, v4, v5, rfl, rfl, hk, rfl, own4, own5, n4, n5, hB, i0, iM⟩ := hrel
        have zi0 := i0.2.2
        have ziM := iM.2.2
        have a0 : (0 : Int) ≤ k := by omega
        obtain ⟨hl4, hl5⟩ := dm_len b L k
        by_cases hlt : k < n
        · have a1 : (k : Int) < n := by omega
          have hd := HD.out k hlt
          have q1 : wr.cell? ⟨gm, k, none⟩ = some (.int .i64 (L.getD k 0 : Int)) := iM.1 k hlt
          have HY := hide (fun h => dm_yes (b := b) (L := L) (i := k) h)
          have HNO := hide (fun h => dm_no (b := b) (L := L) (i := k) h)
          generalize L.getD k 0 = d at *
          have HSL := hide (fun (w : World) (g : Nat) h => slides_one b HB.out d hd g w h)
          obtain ⟨K8, HFS⟩ : ∃ K : Int, Hid (∀ w : World, Calls Try.prog 90 #[.agg #[.int .i64 ((slB b d) 0), .int .i64 ((slB b d) 1), .int .i64 ((slB b d) 2), .int .i64 ((slB b d) 3), .int .i64 ((slB b d) 4), .int .i64 ((slB b d) 5), .int .i64 ((slB b d) 6), .int .i64 ((slB b d) 7), .int .i64 ((slB b d) 8), .int .i64 ((slB b d) 9), .int .i64 ((slB b d) 10), .int .i64 ((slB b d) 11), .int .i64 ((slB b d) 12), .int .i64 ((slB b d) 13), .int .i64 ((slB b d) 14), .int .i64 ((slB b d) 15)]] w fun e w' => e = .returned (.tuple #[.agg #[.int .i64 ((fdB b d) 0), .int .i64 ((fdB b d) 1), .int .i64 ((fdB b d) 2), .int .i64 ((fdB b d) 3), .int .i64 ((fdB b d) 4), .int .i64 ((fdB b d) 5), .int .i64 ((fdB b d) 6), .int .i64 ((fdB b d) 7), .int .i64 ((fdB b d) 8), .int .i64 ((fdB b d) 9), .int .i64 ((fdB b d) 10), .int .i64 ((fdB b d) 11), .int .i64 ((fdB b d) 12), .int .i64 ((fdB b d) 13), .int .i64 ((fdB b d) 14), .int .i64 ((fdB b d) 15)], .int .i64 K]) ∧ Below w.heap.size w w') := ⟨_, hide fun w => first_any (slB b d) w⟩
          have HCT := hide (fun (w : World) v base h => containsB_own (dmP b L k).2 (by omega) (fdB b d) v base w h)
          generalize slB b d = G at *
          generalize fdB b d = F at *
          have ci0 := i0.1; have fi0 := i0.2.1; have ciM := iM.1; have fiM := iM.2.1
          have N4 := hide (fun j (hj : v4.ownBlock = some j) => (own4.lt j hj).2)
          go_upto_region 7 with (fail)
          go_upto_region 8 with (first | (refine load_Board rfl _ rfl _ _ rfl (by repeat (first | (with_reducible assumption) | (with_reducible apply Has.set) | ((with_reducible apply Has.other); (case hne => (dsimp only; omega))) | (with_reducible apply Has.alloc) | (with_reducible apply Has.drew) | (with_reducible apply Has.drewN))) (by omega) ?_) | (go_at_call 95; (with_reducible refine (HSL.out _ _ (Has.new' rfl)).mono ?_); rintro e w2 ⟨rfl, hb2⟩; have hB2 := below_go (below_new hB _) hb2; have i02 := Has.call (Has.alloc i0 _) hb2; have iM2 := Has.call (Has.alloc iM _) hb2; have own42 := own_call (own4.alloc _) hb2; have own52 := own_call (own5.alloc _) hb2; clear hB i0 iM own4 own5 hb2; have hB := hB2; have i0 := i02; have iM := iM2; have own4 := own42; have own5 := own52; clear hB2 i02 iM2 own42 own52) | (go_at_call 90; (with_reducible refine (HFS.out _).mono ?_); rintro e w4 ⟨rfl, hb4⟩; have hB4 := below_go hB hb4; have i04 := Has.call i0 hb4; have iM4 := Has.call iM hb4; have own44 := own_call own4 hb4; have own54 := own_call own5 hb4; clear hB i0 iM own4 own5 hb4; have hB := hB4; have i0 := i04; have iM := iM4; have own4 := own44; have own5 := own54; clear hB4 i04 iM4 own44 own54))
          have hz3 : gm < w4.heap.size := iM.2.2
          have hz4 : w.heap.size < w4.heap.size := i0.2.2
          have N4 : ∀ j, v4.ownBlock = some j → j < w4.heap.size ∧ j ≠ gm := fun j hj => ⟨(own4.lt j hj).2, n4 j hj⟩
          have N5 : ∀ j, v5.ownBlock = some j → j < w4.heap.size ∧ j ≠ gm := fun j hj => ⟨(own5.lt j hj).2, n5 j hj⟩
          have ci0 := i0.1; have fi0 := i0.2.1; have zi0 := i0.2.2; have ciM := iM.1; have fiM := iM.2.1; have ziM := iM.2.2
          generalize hW : (World.alloc w4 _) = w1
          have hB' : Below w.heap.size w w1 := by (rw [← hW]; exact (by repeat (first | (with_reducible exact Below.refl _ _) | (with_reducible assumption) | (with_reducible refine below_go ?_ (by with_reducible assumption)) | (with_reducible refine below_new ?_ _) | ((with_reducible refine below_put ?_ ?_ _); rotate_left; (dsimp only; omega)) | (with_reducible refine Below.drew ?_) | (with_reducible refine below_dn ?_ _))))
          have i0' := Has.at hW (B := w.heap.size) (n := 16) (by repeat (first | (with_reducible assumption) | (with_reducible apply Has.set) | ((with_reducible apply Has.other); (case hne => (dsimp only; omega))) | (with_reducible apply Has.alloc) | (with_reducible apply Has.drew) | (with_reducible apply Has.drewN)))
          have iM' := Has.at hW (B := gm) (n := n) (by repeat (first | (with_reducible assumption) | (with_reducible apply Has.set) | ((with_reducible apply Has.other); (case hne => (dsimp only; omega))) | (with_reducible apply Has.alloc) | (with_reducible apply Has.drew) | (with_reducible apply Has.drewN)))
          have k0 := Has.at hW (n := 16) (Has.new' rfl)
          try simp only [World.size_alloc] at k0
          have own4' := own_at hW own4; have own5' := own_at hW own5; clear own4 own5; have own4 := own4'; have own5 := own5'; clear own4' own5'
          clear hW; clear hB; have hB := hB'; clear hB'; (try clear fi0); (try clear zi0); (try clear ci0); clear i0; have i0 := i0'; clear i0'; have ci0 := i0.1; have fi0 := i0.2.1; have zi0 := i0.2.2; (try clear fiM); (try clear ziM); (try clear ciM); clear iM; have iM := iM'; clear iM'; have ciM := iM.1; have fiM := iM.2.1; have ziM := iM.2.2; have ck0 := k0.1; have fk0 := k0.2.1; have zk0 := k0.2.2
          generalize hS : w4.heap.size = B8 at *
          clear hS
          have k0 := k0.congr (d := fun o => .int .i64 (F o)) (fun o ho => lit16' F o ho)
          clear ck0; have ck0 := k0.1
          clear n4 n5 q1
          cases hc : hasO eqB (dmP b L k).2 F
          · have HK := hide (HNO.out hc)
            rw [hc] at HCT
            clear hc
            go_upto_region 9 with (first | (refine load_Board rfl _ rfl _ _ rfl (by repeat (first | (with_reducible assumption) | (with_reducible apply Has.set) | ((with_reducible apply Has.other); (case hne => (dsimp only; omega))) | (with_reducible apply Has.alloc) | (with_reducible apply Has.drew) | (with_reducible apply Has.drewN))) (by omega) ?_) | (go_at_call 96; (with_reducible refine (HCT.out _ _ _ own5).mono ?_); rintro e w2 ⟨rfl, hb2⟩; have hB2 := below_go hB hb2; have i02 := Has.call i0 hb2; have iM2 := Has.call iM hb2; have k02 := Has.call k0 hb2; have own42 := own_call own4 hb2; have own52 := own_call own5 hb2; clear hB i0 iM k0 own4 own5 hb2 ci0 fi0 zi0 ciM fiM ziM ck0 fk0 zk0; have hB := hB2; have i0 := i02; have iM := iM2; have k0 := k02; have own4 := own42; have own5 := own52; clear hB2 i02 iM2 k02 own42 own52))
            have zi0 := i0.2.2; have ziM := iM.2.2; have zk0 := k0.2.2
            refine wp_region_noPanic ?_
            refine wp_region_held_drew (S := (fun w' => RB B8 F w')) (by kernel_rfl) ?hS01 (fun hHeld => ?_)
            case hS01 => exact (rb_of k0)
            have hB' : Below w.heap.size w (World.drew _) := Below.drew hB
            have i0' := Has.drew i0
            have iM' := Has.drew iM
            have k0' := Has.drew k0
            have own4x := own_draw own4; clear own4; have own4 := own4x; clear own4x
            have own5x := own_draw own5; clear own5; have own5 := own5x; clear own5x
            (try clear ci0); (try clear fi0)
            (try clear ciM); (try clear fiM)
            (try clear ck0); (try clear fk0)
            generalize hWW : World.drew _ = wx at *; clear hWW
            clear hB; have hB := hB'; clear hB'; clear i0 zi0; have i0 := i0'; clear i0'; have zi0 := i0.2.2; clear iM ziM; have iM := iM'; clear iM'; have ziM := iM.2.2; clear k0 zk0; have k0 := k0'; clear k0'; have zk0 := k0.2.2
            refine take_d (i := 0) (some 34) (v := ?_) rfl rfl (by kernel_rfl) (by kernel_rfl) (by kernel_rfl) (fun _ _ _ h => h) (Or.inl ⟨by rfl, ?_⟩) (by assumption) ?_
            rotate_left; (intro w hSw; clear hSw; go_simp; try with_reducible rfl)
            all_goals (try simp only [Act.put, List.setIfInBounds_toArray, List.set_cons_zero, List.set_cons_succ])
            refine take_d (i := 1) (some 35) (v := ?_) rfl rfl (by kernel_rfl) (by kernel_rfl) (by kernel_rfl) (fun _ _ _ h => h) (Or.inl ⟨by rfl, ?_⟩) (by assumption) ?_
            rotate_left; (intro w hSw; clear hSw; go_simp; try with_reducible rfl)
            all_goals (try simp only [Act.put, List.setIfInBounds_toArray, List.set_cons_zero, List.set_cons_succ])
            refine take_d (i := 4) (some 38) (v := ?_) rfl rfl (by kernel_rfl) (by kernel_rfl) (by kernel_rfl) (fun _ _ _ h => h) (Or.inl ⟨by rfl, ?_⟩) (by assumption) ?_
            rotate_left; (intro w hSw; clear hSw; go_simp; try with_reducible rfl)
            all_goals (try simp only [Act.put, List.setIfInBounds_toArray, List.set_cons_zero, List.set_cons_succ])
            refine take_d (i := 5) (some 39) (oi := _) (v := _) rfl rfl (by kernel_rfl) (by kernel_rfl) (by kernel_rfl) (fun _ _ _ h => h) (yieldsIf_load_mid (by rfl) _ _ rfl _ _ rfl _ _ (fun w h => h.r) Try.underlying25 rfl (by kernel_rfl)) (by assumption) ?_
            all_goals (try simp only [Act.put, List.setIfInBounds_toArray, List.set_cons_zero, List.set_cons_succ])
            refine wpAnyH_ready (rs := [2, 6]) (by kernel_rfl) (by simp) ?_
            refine AllReadyH.cons (o := _) rfl (fun K hK => ?_) ?_
            ·
              go_simp
              generalize hW : World.alloc _ _ = w2
              have hB' : Below w.heap.size w w2 := by (rw [← hW]; exact below_new hB _)
              have i0' := Has.at hW (Has.alloc i0 _)
              have iM' := Has.at hW (Has.alloc iM _)
              have k0' := Has.at hW (Has.alloc k0 _)
              have own4' := own_at hW own4; clear own4; have own4 := own4'; clear own4'
              have own5' := own_at hW own5; clear own5; have own5 := own5'; clear own5'
              have je := Has.newat (n := 1) hW rfl
              have h8E1 : B8 < wx.heap.size := zk0
              clear hW; clear hB; have hB := hB'; clear hB'; clear i0 zi0; have i0 := i0'; clear i0'; have zi0 := i0.2.2; clear iM ziM; have iM := iM'; clear iM'; have ziM := iM.2.2; clear k0 zk0; have k0 := k0'; clear k0'; have zk0 := k0.2.2
              generalize hS : (World.heap wx).size = E1 at *
              clear hS; generalize hWW : w2 = wx at *; clear hWW
              refine hK.out _ _ ?hS2 (fun hHeld => ?_)
              case hS2 => exact (rb_of k0)
              clear hK K
              (try simp only [Act.put, List.setIfInBounds_toArray, List.set_cons_zero, List.set_cons_succ])
              refine wpAnyH_ready (rs := [3, 6]) (by kernel_rfl) (by simp) ?_
              refine AllReadyH.cons (o := _) rfl (fun K hK => ?_) ?_
              ·
                rw [if_pos (by rfl)]
                refine wp_append_lies _ _ _ 35 (by rfl) (w.heap.size + 1) 3 i0s (.int .i64 0) 1 8 Try.underlying35 hi0 hz0 hz1 hz2 rfl (by decide) _ _ _ (by rfl) own4 ⟨E1, 0, none⟩ 1 1 [.int .i64 (d : Int)] (by rfl) rfl (one_box je) (fun u hu => by simp at hu; subst hu; rfl) (by decide) (by unfold maxLen; omega) (by omega) zi0 _ rfl ?_
                intro g1 c1 w2 hown' hgrow hat hlt
                change K (Act.put _ (some 37) _) _
                have hB' := hB.grown hgrow hB.size (fun q hq => Nat.le_of_succ_le (own4.lt q hq).1)
                have i0' := i0.grown hgrow (own_at_ne own4 (Nat.lt_succ_self _))
                have iM' := iM.grown hgrow (fun h => (N4 _ h).2 rfl)
                have k0' := k0.grown hgrow (fun h => Nat.lt_irrefl _ (N4 _ h).1)
                have M1 : g1 ≠ gm := by (rcases hat with h | h; exact (N4 _ h).2; (rw [h]; exact Nat.ne_of_gt ziM))
                have own5' := own_grown2 own5 hgrow (own_apart own4 own5 (by decide))
                clear own5; have own5 := own5'; clear own5'
                clear own4 hgrow hat hlt; have own4 := hown'; clear hown'; clear hB; have hB := hB'; clear hB'; clear i0 zi0; have i0 := i0'; clear i0'; have zi0 := i0.2.2; clear iM ziM; have iM := iM'; clear iM'; have ziM := iM.2.2; clear k0 zk0; have k0 := k0'; clear k0'; have zk0 := k0.2.2
                generalize hWW : w2 = wx at *; clear hWW
                refine hK.out _ _ ?hS3 (fun hHeld => ?_)
                case hS3 => exact (rb_of k0)
                clear hK K
                (try simp only [Act.put, List.setIfInBounds_toArray, List.set_cons_zero, List.set_cons_succ])
                refine wpAnyH_ready (rs := [6]) (by kernel_rfl) (by simp) ?_
                refine AllReadyH.cons (o := _) rfl (fun K hK => ?_) ?_
                ·
                  go_simp
                  generalize hW : World.alloc _ _ = w2
                  have hB' : Below w.heap.size w w2 := by (rw [← hW]; exact below_new hB _)
                  have i0' := Has.at hW (Has.alloc i0 _)
                  have iM' := Has.at hW (Has.alloc iM _)
                  have k0' := Has.at hW (Has.alloc k0 _)
                  have own4' := own_at hW own4; clear own4; have own4 := own4'; clear own4'
                  have own5' := own_at hW own5; clear own5; have own5 := own5'; clear own5'
                  have jc := (Has.newat (n := 16) hW rfl).congr (d := fun o => .int .i64 (F o)) (fun o ho => lit16' F o ho)
                  have h8C1 : B8 < wx.heap.size := zk0
                  clear hW; clear hB; have hB := hB'; clear hB'; clear i0 zi0; have i0 := i0'; clear i0'; have zi0 := i0.2.2; clear iM ziM; have iM := iM'; clear iM'; have ziM := iM.2.2; clear k0 zk0; have k0 := k0'; clear k0'; have zk0 := k0.2.2
                  generalize hS : (World.heap wx).size = C1 at *
                  clear hS; generalize hWW : w2 = wx at *; clear hWW
                  refine hK.out _ _ ?hS4 (fun hHeld => ?_)
                  case hS4 => exact (rb_of k0)
                  clear hK K
                  (try simp only [Act.put, List.setIfInBounds_toArray, List.set_cons_zero, List.set_cons_succ])
                  refine wpAnyH_ready (rs := [7]) (by kernel_rfl) (by simp) ?_
                  refine AllReadyH.cons (o := _) rfl (fun K hK => ?_) ?_
                  ·
                    rw [if_pos (by rfl)]
                    refine wp_append_lies _ _ _ 42 (by rfl) (w.heap.size + 1) 25 i1s (.agg #[.int .i64 0, .int .i64 0, .int .i64 0, .int .i64 0, .int .i64 0, .int .i64 0, .int .i64 0, .int .i64 0, .int .i64 0, .int .i64 0, .int .i64 0, .int .i64 0, .int .i64 0, .int .i64 0, .int .i64 0, .int .i64 0]) 16 128 Try.underlying42 hj0 hj1 hj2 hj3 rfl (by decide) _ _ _ (by rfl) own5 ⟨C1, 0, none⟩ 1 1 (c16 F) (by rfl) rfl (bs_box jc) (c16_ints F) (by decide) (by unfold maxLen; omega) (by omega) zi0 _ rfl ?_
                    intro g2 c2 w2 hown' hgrow hat hlt
                    change K (Act.put _ (some 41) _) _
                    have hB' := hB.grown hgrow hB.size (fun q hq => Nat.le_of_succ_le (own5.lt q hq).1)
                    have i0' := i0.grown hgrow (own_at_ne own5 (Nat.lt_succ_self _))
                    have iM' := iM.grown hgrow (fun h => (N5 _ h).2 rfl)
                    have k0' := k0.grown hgrow (fun h => Nat.lt_irrefl _ (N5 _ h).1)
                    have M2 : g2 ≠ gm := by (rcases hat with h | h; exact (N5 _ h).2; (rw [h]; exact Nat.ne_of_gt ziM))
                    have own4' := own_grown2 own4 hgrow (own_apart own5 own4 (by decide))
                    clear own4; have own4 := own4'; clear own4'
                    clear own5 hgrow hat hlt; have own5 := hown'; clear hown'; clear hB; have hB := hB'; clear hB'; clear i0 zi0; have i0 := i0'; clear i0'; have zi0 := i0.2.2; clear iM ziM; have iM := iM'; clear iM'; have ziM := iM.2.2; clear k0 zk0; have k0 := k0'; clear k0'; have zk0 := k0.2.2
                    generalize hWW : w2 = wx at *; clear hWW
                    refine hK.out _ _ ?hS5 (fun hHeld => ?_)
                    case hS5 => exact (rb_of k0)
                    clear hK K
                    (try simp only [Act.put, List.setIfInBounds_toArray, List.set_cons_zero, List.set_cons_succ])
                    refine take_d (i := 8) (some 4) (v := ?_) rfl rfl (by kernel_rfl) (by kernel_rfl) (by kernel_rfl) (fun _ _ _ h => h) (Or.inl ⟨by rfl, ?_⟩) (by assumption) ?_
                    rotate_left; (intro w hSw; clear hSw; go_simp; try with_reducible rfl)
                    all_goals (try simp only [Act.put, List.setIfInBounds_toArray, List.set_cons_zero, List.set_cons_succ])
                    refine take_d (i := 9) (some 5) (v := ?_) rfl rfl (by kernel_rfl) (by kernel_rfl) (by kernel_rfl) (fun _ _ _ h => h) (Or.inl ⟨by rfl, ?_⟩) (by assumption) ?_
                    rotate_left; (intro w hSw; clear hSw; go_simp; try with_reducible rfl)
                    all_goals (try simp only [Act.put, List.setIfInBounds_toArray, List.set_cons_zero, List.set_cons_succ])
                    refine wpAnyH_done (by kernel_rfl) ?_ _
                    (try refine NoPanic.normal ?_)
                    go_wp2
                    go_roundw
                    case rel => exact ⟨k + 1, _, _, rfl, rfl, by omega, by go_num, by rw [HK.out]; exact dm_own4 own4, by rw [HK.out]; exact dm_own5 own5, fun j hj => by cases hj; exact M1, fun j hj => by cases hj; exact M2, hB, i0, iM⟩
                    case measure => (simp [intOf]; omega)
                  exact AllReadyH.nil
                exact AllReadyH.nil
              refine AllReadyH.cons (o := _) rfl (fun K hK => ?_) ?_
              ·
                go_simp
                generalize hW : World.alloc _ _ = w2
                have hB' : Below w.heap.size w w2 := by (rw [← hW]; exact below_new hB _)
                have i0' := Has.at hW (Has.alloc i0 _)
                have iM' := Has.at hW (Has.alloc iM _)
                have k0' := Has.at hW (Has.alloc k0 _)
                have own4' := own_at hW own4; clear own4; have own4 := own4'; clear own4'
                have own5' := own_at hW own5; clear own5; have own5 := own5'; clear own5'
                have jc := (Has.newat (n := 16) hW rfl).congr (d := fun o => .int .i64 (F o)) (fun o ho => lit16' F o ho)
                have je' := Has.at hW (Has.alloc je _); clear je; have je := je'; clear je'
                have h8C1 : B8 < wx.heap.size := zk0
                clear hW; clear hB; have hB := hB'; clear hB'; clear i0 zi0; have i0 := i0'; clear i0'; have zi0 := i0.2.2; clear iM ziM; have iM := iM'; clear iM'; have ziM := iM.2.2; clear k0 zk0; have k0 := k0'; clear k0'; have zk0 := k0.2.2
                generalize hS : (World.heap wx).size = C1 at *
                clear hS; generalize hWW : w2 = wx at *; clear hWW
                refine hK.out _ _ ?hS6 (fun hHeld => ?_)
                case hS6 => exact (rb_of k0)
                clear hK K
                (try simp only [Act.put, List.setIfInBounds_toArray, List.set_cons_zero, List.set_cons_succ])
                refine wpAnyH_ready (rs := [3]) (by kernel_rfl) (by simp) ?_
                refine AllReadyH.cons (o := _) rfl (fun K hK => ?_) ?_
                ·
                  rw [if_pos (by rfl)]
                  refine wp_append_lies _ _ _ 35 (by rfl) (w.heap.size + 1) 3 i0s (.int .i64 0) 1 8 Try.underlying35 hi0 hz0 hz1 hz2 rfl (by decide) _ _ _ (by rfl) own4 ⟨E1, 0, none⟩ 1 1 [.int .i64 (d : Int)] (by rfl) rfl (one_box je) (fun u hu => by simp at hu; subst hu; rfl) (by decide) (by unfold maxLen; omega) (by omega) zi0 _ rfl ?_
                  intro g1 c1 w2 hown' hgrow hat hlt
                  change K (Act.put _ (some 37) _) _
                  have hB' := hB.grown hgrow hB.size (fun q hq => Nat.le_of_succ_le (own4.lt q hq).1)
                  have i0' := i0.grown hgrow (own_at_ne own4 (Nat.lt_succ_self _))
                  have iM' := iM.grown hgrow (fun h => (N4 _ h).2 rfl)
                  have k0' := k0.grown hgrow (fun h => Nat.lt_irrefl _ (N4 _ h).1)
                  have M1 : g1 ≠ gm := by (rcases hat with h | h; exact (N4 _ h).2; (rw [h]; exact Nat.ne_of_gt ziM))
                  have own5' := own_grown2 own5 hgrow (own_apart own4 own5 (by decide))
                  clear own5; have own5 := own5'; clear own5'
                  have jc' := jc.grown hgrow (fun h => by have := (N4 _ h).1; omega); clear jc; have jc := jc'; clear jc'
                  clear own4 hgrow hat hlt; have own4 := hown'; clear hown'; clear hB; have hB := hB'; clear hB'; clear i0 zi0; have i0 := i0'; clear i0'; have zi0 := i0.2.2; clear iM ziM; have iM := iM'; clear iM'; have ziM := iM.2.2; clear k0 zk0; have k0 := k0'; clear k0'; have zk0 := k0.2.2
                  generalize hWW : w2 = wx at *; clear hWW
                  refine hK.out _ _ ?hS7 (fun hHeld => ?_)
                  case hS7 => exact (rb_of k0)
                  clear hK K
                  (try simp only [Act.put, List.setIfInBounds_toArray, List.set_cons_zero, List.set_cons_succ])
                  refine wpAnyH_ready (rs := [7]) (by kernel_rfl) (by simp) ?_
                  refine AllReadyH.cons (o := _) rfl (fun K hK => ?_) ?_
                  ·
                    rw [if_pos (by rfl)]
                    refine wp_append_lies _ _ _ 42 (by rfl) (w.heap.size + 1) 25 i1s (.agg #[.int .i64 0, .int .i64 0, .int .i64 0, .int .i64 0, .int .i64 0, .int .i64 0, .int .i64 0, .int .i64 0, .int .i64 0, .int .i64 0, .int .i64 0, .int .i64 0, .int .i64 0, .int .i64 0, .int .i64 0, .int .i64 0]) 16 128 Try.underlying42 hj0 hj1 hj2 hj3 rfl (by decide) _ _ _ (by rfl) own5 ⟨C1, 0, none⟩ 1 1 (c16 F) (by rfl) rfl (bs_box jc) (c16_ints F) (by decide) (by unfold maxLen; omega) (by omega) zi0 _ rfl ?_
                    intro g2 c2 w2 hown' hgrow hat hlt
                    change K (Act.put _ (some 41) _) _
                    have hB' := hB.grown hgrow hB.size (fun q hq => Nat.le_of_succ_le (own5.lt q hq).1)
                    have i0' := i0.grown hgrow (own_at_ne own5 (Nat.lt_succ_self _))
                    have iM' := iM.grown hgrow (fun h => (N5 _ h).2 rfl)
                    have k0' := k0.grown hgrow (fun h => Nat.lt_irrefl _ (N5 _ h).1)
                    have M2 : g2 ≠ gm := by (rcases hat with h | h; exact (N5 _ h).2; (rw [h]; exact Nat.ne_of_gt ziM))
                    have own4' := own_grown2 own4 hgrow (own_apart own5 own4 (by decide))
                    clear own4; have own4 := own4'; clear own4'
                    clear own5 hgrow hat hlt; have own5 := hown'; clear hown'; clear hB; have hB := hB'; clear hB'; clear i0 zi0; have i0 := i0'; clear i0'; have zi0 := i0.2.2; clear iM ziM; have iM := iM'; clear iM'; have ziM := iM.2.2; clear k0 zk0; have k0 := k0'; clear k0'; have zk0 := k0.2.2
                    generalize hWW : w2 = wx at *; clear hWW
                    refine hK.out _ _ ?hS8 (fun hHeld => ?_)
                    case hS8 => exact (rb_of k0)
                    clear hK K
                    (try simp only [Act.put, List.setIfInBounds_toArray, List.set_cons_zero, List.set_cons_succ])
                    refine take_d (i := 8) (some 4) (v := ?_) rfl rfl (by kernel_rfl) (by kernel_rfl) (by kernel_rfl) (fun _ _ _ h => h) (Or.inl ⟨by rfl, ?_⟩) (by assumption) ?_
                    rotate_left; (intro w hSw; clear hSw; go_simp; try with_reducible rfl)
                    all_goals (try simp only [Act.put, List.setIfInBounds_toArray, List.set_cons_zero, List.set_cons_succ])
                    refine take_d (i := 9) (some 5) (v := ?_) rfl rfl (by kernel_rfl) (by kernel_rfl) (by kernel_rfl) (fun _ _ _ h => h) (Or.inl ⟨by rfl, ?_⟩) (by assumption) ?_
                    rotate_left; (intro w hSw; clear hSw; go_simp; try with_reducible rfl)
                    all_goals (try simp only [Act.put, List.setIfInBounds_toArray, List.set_cons_zero, List.set_cons_succ])
                    refine wpAnyH_done (by kernel_rfl) ?_ _
                    (try refine NoPanic.normal ?_)
                    go_wp2
                    go_roundw
                    case rel => exact ⟨k + 1, _, _, rfl, rfl, by omega, by go_num, by rw [HK.out]; exact dm_own4 own4, by rw [HK.out]; exact dm_own5 own5, fun j hj => by cases hj; exact M1, fun j hj => by cases hj; exact M2, hB, i0, iM⟩
                    case measure => (simp [intOf]; omega)
                  exact AllReadyH.nil
                exact AllReadyH.nil
              exact AllReadyH.nil
            refine AllReadyH.cons (o := _) rfl (fun K hK => ?_) ?_
            ·
              go_simp
              generalize hW : World.alloc _ _ = w2
              have hB' : Below w.heap.size w w2 := by (rw [← hW]; exact below_new hB _)
              have i0' := Has.at hW (Has.alloc i0 _)
              have iM' := Has.at hW (Has.alloc iM _)
              have k0' := Has.at hW (Has.alloc k0 _)
              have own4' := own_at hW own4; clear own4; have own4 := own4'; clear own4'
              have own5' := own_at hW own5; clear own5; have own5 := own5'; clear own5'
              have jc := (Has.newat (n := 16) hW rfl).congr (d := fun o => .int .i64 (F o)) (fun o ho => lit16' F o ho)
              have h8C1 : B8 < wx.heap.size := zk0
              clear hW; clear hB; have hB := hB'; clear hB'; clear i0 zi0; have i0 := i0'; clear i0'; have zi0 := i0.2.2; clear iM ziM; have iM := iM'; clear iM'; have ziM := iM.2.2; clear k0 zk0; have k0 := k0'; clear k0'; have zk0 := k0.2.2
              generalize hS : (World.heap wx).size = C1 at *
              clear hS; generalize hWW : w2 = wx at *; clear hWW
              refine hK.out _ _ ?hS9 (fun hHeld => ?_)
              case hS9 => exact (rb_of k0)
              clear hK K
              (try simp only [Act.put, List.setIfInBounds_toArray, List.set_cons_zero, List.set_cons_succ])
              refine wpAnyH_ready (rs := [2]) (by kernel_rfl) (by simp) ?_
              refine AllReadyH.cons (o := _) rfl (fun K hK => ?_) ?_
              ·
                go_simp
                generalize hW : World.alloc _ _ = w2
                have hB' : Below w.heap.size w w2 := by (rw [← hW]; exact below_new hB _)
                have i0' := Has.at hW (Has.alloc i0 _)
                have iM' := Has.at hW (Has.alloc iM _)
                have k0' := Has.at hW (Has.alloc k0 _)
                have own4' := own_at hW own4; clear own4; have own4 := own4'; clear own4'
                have own5' := own_at hW own5; clear own5; have own5 := own5'; clear own5'
                have je := Has.newat (n := 1) hW rfl
                have jc' := Has.at hW (Has.alloc jc _); clear jc; have jc := jc'; clear jc'
                have h8E1 : B8 < wx.heap.size := zk0
                clear hW; clear hB; have hB := hB'; clear hB'; clear i0 zi0; have i0 := i0'; clear i0'; have zi0 := i0.2.2; clear iM ziM; have iM := iM'; clear iM'; have ziM := iM.2.2; clear k0 zk0; have k0 := k0'; clear k0'; have zk0 := k0.2.2
                generalize hS : (World.heap wx).size = E1 at *
                clear hS; generalize hWW : w2 = wx at *; clear hWW
                refine hK.out _ _ ?hS10 (fun hHeld => ?_)
                case hS10 => exact (rb_of k0)
                clear hK K
                (try simp only [Act.put, List.setIfInBounds_toArray, List.set_cons_zero, List.set_cons_succ])
                refine wpAnyH_ready (rs := [3]) (by kernel_rfl) (by simp) ?_
                refine AllReadyH.cons (o := _) rfl (fun K hK => ?_) ?_
                ·
                  rw [if_pos (by rfl)]
                  refine wp_append_lies _ _ _ 35 (by rfl) (w.heap.size + 1) 3 i0s (.int .i64 0) 1 8 Try.underlying35 hi0 hz0 hz1 hz2 rfl (by decide) _ _ _ (by rfl) own4 ⟨E1, 0, none⟩ 1 1 [.int .i64 (d : Int)] (by rfl) rfl (one_box je) (fun u hu => by simp at hu; subst hu; rfl) (by decide) (by unfold maxLen; omega) (by omega) zi0 _ rfl ?_
                  intro g1 c1 w2 hown' hgrow hat hlt
                  change K (Act.put _ (some 37) _) _
                  have hB' := hB.grown hgrow hB.size (fun q hq => Nat.le_of_succ_le (own4.lt q hq).1)
                  have i0' := i0.grown hgrow (own_at_ne own4 (Nat.lt_succ_self _))
                  have iM' := iM.grown hgrow (fun h => (N4 _ h).2 rfl)
                  have k0' := k0.grown hgrow (fun h => Nat.lt_irrefl _ (N4 _ h).1)
                  have M1 : g1 ≠ gm := by (rcases hat with h | h; exact (N4 _ h).2; (rw [h]; exact Nat.ne_of_gt ziM))
                  have own5' := own_grown2 own5 hgrow (own_apart own4 own5 (by decide))
                  clear own5; have own5 := own5'; clear own5'
                  have jc' := jc.grown hgrow (fun h => by have := (N4 _ h).1; omega); clear jc; have jc := jc'; clear jc'
                  clear own4 hgrow hat hlt; have own4 := hown'; clear hown'; clear hB; have hB := hB'; clear hB'; clear i0 zi0; have i0 := i0'; clear i0'; have zi0 := i0.2.2; clear iM ziM; have iM := iM'; clear iM'; have ziM := iM.2.2; clear k0 zk0; have k0 := k0'; clear k0'; have zk0 := k0.2.2
                  generalize hWW : w2 = wx at *; clear hWW
                  refine hK.out _ _ ?hS11 (fun hHeld => ?_)
                  case hS11 => exact (rb_of k0)
                  clear hK K
                  (try simp only [Act.put, List.setIfInBounds_toArray, List.set_cons_zero, List.set_cons_succ])
                  refine wpAnyH_ready (rs := [7]) (by kernel_rfl) (by simp) ?_
                  refine AllReadyH.cons (o := _) rfl (fun K hK => ?_) ?_
                  ·
                    rw [if_pos (by rfl)]
                    refine wp_append_lies _ _ _ 42 (by rfl) (w.heap.size + 1) 25 i1s (.agg #[.int .i64 0, .int .i64 0, .int .i64 0, .int .i64 0, .int .i64 0, .int .i64 0, .int .i64 0, .int .i64 0, .int .i64 0, .int .i64 0, .int .i64 0, .int .i64 0, .int .i64 0, .int .i64 0, .int .i64 0, .int .i64 0]) 16 128 Try.underlying42 hj0 hj1 hj2 hj3 rfl (by decide) _ _ _ (by rfl) own5 ⟨C1, 0, none⟩ 1 1 (c16 F) (by rfl) rfl (bs_box jc) (c16_ints F) (by decide) (by unfold maxLen; omega) (by omega) zi0 _ rfl ?_
                    intro g2 c2 w2 hown' hgrow hat hlt
                    change K (Act.put _ (some 41) _) _
                    have hB' := hB.grown hgrow hB.size (fun q hq => Nat.le_of_succ_le (own5.lt q hq).1)
                    have i0' := i0.grown hgrow (own_at_ne own5 (Nat.lt_succ_self _))
                    have iM' := iM.grown hgrow (fun h => (N5 _ h).2 rfl)
                    have k0' := k0.grown hgrow (fun h => Nat.lt_irrefl _ (N5 _ h).1)
                    have M2 : g2 ≠ gm := by (rcases hat with h | h; exact (N5 _ h).2; (rw [h]; exact Nat.ne_of_gt ziM))
                    have own4' := own_grown2 own4 hgrow (own_apart own5 own4 (by decide))
                    clear own4; have own4 := own4'; clear own4'
                    clear own5 hgrow hat hlt; have own5 := hown'; clear hown'; clear hB; have hB := hB'; clear hB'; clear i0 zi0; have i0 := i0'; clear i0'; have zi0 := i0.2.2; clear iM ziM; have iM := iM'; clear iM'; have ziM := iM.2.2; clear k0 zk0; have k0 := k0'; clear k0'; have zk0 := k0.2.2
                    generalize hWW : w2 = wx at *; clear hWW
                    refine hK.out _ _ ?hS12 (fun hHeld => ?_)
                    case hS12 => exact (rb_of k0)
                    clear hK K
                    (try simp only [Act.put, List.setIfInBounds_toArray, List.set_cons_zero, List.set_cons_succ])
                    refine take_d (i := 8) (some 4) (v := ?_) rfl rfl (by kernel_rfl) (by kernel_rfl) (by kernel_rfl) (fun _ _ _ h => h) (Or.inl ⟨by rfl, ?_⟩) (by assumption) ?_
                    rotate_left; (intro w hSw; clear hSw; go_simp; try with_reducible rfl)
                    all_goals (try simp only [Act.put, List.setIfInBounds_toArray, List.set_cons_zero, List.set_cons_succ])
                    refine take_d (i := 9) (some 5) (v := ?_) rfl rfl (by kernel_rfl) (by kernel_rfl) (by kernel_rfl) (fun _ _ _ h => h) (Or.inl ⟨by rfl, ?_⟩) (by assumption) ?_
                    rotate_left; (intro w hSw; clear hSw; go_simp; try with_reducible rfl)
                    all_goals (try simp only [Act.put, List.setIfInBounds_toArray, List.set_cons_zero, List.set_cons_succ])
                    refine wpAnyH_done (by kernel_rfl) ?_ _
                    (try refine NoPanic.normal ?_)
                    go_wp2
                    go_roundw
                    case rel => exact ⟨k + 1, _, _, rfl, rfl, by omega, by go_num, by rw [HK.out]; exact dm_own4 own4, by rw [HK.out]; exact dm_own5 own5, fun j hj => by cases hj; exact M1, fun j hj => by cases hj; exact M2, hB, i0, iM⟩
                    case measure => (simp [intOf]; omega)
                  exact AllReadyH.nil
                exact AllReadyH.nil
              exact AllReadyH.nil
            exact AllReadyH.nil
          · have HK := hide (HY.out hc)
            rw [hc] at HCT
            clear hc
            go_wp2_with (first | (refine load_Board rfl _ rfl _ _ rfl (by repeat (first | (with_reducible assumption) | (with_reducible apply Has.set) | ((with_reducible apply Has.other); (case hne => (dsimp only; omega))) | (with_reducible apply Has.alloc) | (with_reducible apply Has.drew) | (with_reducible apply Has.drewN))) (by omega) ?_) | (go_at_call 96; (with_reducible refine (HCT.out _ _ _ own5).mono ?_); rintro e w2 ⟨rfl, hb2⟩; have hB2 := below_go hB hb2; have i02 := Has.call i0 hb2; have iM2 := Has.call iM hb2; have own42 := own_call own4 hb2; have own52 := own_call own5 hb2; clear hB i0 iM k0 own4 own5 hb2 ci0 fi0 zi0 ciM fiM ziM ck0 fk0 zk0; have hB := hB2; have i0 := i02; have iM := iM2; have own4 := own42; have own5 := own52; clear hB2 i02 iM2 own42 own52))
            go_roundw
            case rel => exact ⟨k + 1, _, _, rfl, rfl, by omega, by go_num, by rw [HK.out]; exact own4, by rw [HK.out]; exact own5, fun j hj => (N4 j hj).2, fun j hj => (N5 j hj).2, hB, i0, iM⟩
            case measure => (simp [intOf]; omega)
        · obtain rfl : k = n := by omega
          clear own5
          obtain ⟨A, cap, rfl, hS⟩ := ints_sl own4
          clear own4
          go_wp2
          go_ret2
          exact ⟨_, _, rfl, hS.mono (Nat.le_succ _), hB⟩

end Go.Proofs.Ytmjehagmgifchaa
