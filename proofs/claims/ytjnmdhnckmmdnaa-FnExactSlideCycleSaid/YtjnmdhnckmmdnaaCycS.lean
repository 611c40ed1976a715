/-
  Contract: SlideCycle, the reference's.
-/
import Derived.Test.YtjnmdhnckmmdnaaCyc
import Derived.Test.YtjnmdhnckmmdnaaMade
import Derived.Test.YtjnmdhnckmmdnaaTx
namespace Go.Proofs.Ytjnmdhnckmmdnaa
open Go.RowKit

theorem in_bdB {b : Nat → Int} (h : In17 b 16) : bdB b = true := by
  have e : ∀ p, p < 16 → inB (b p) 0 17 = true := fun p hp => by
    have := h p hp
    simp [inB]; omega
  simp [bdB, rowB, e 0 (by omega), e 1 (by omega), e 2 (by omega), e 3 (by omega), e 4 (by omega), e 5 (by omega), e 6 (by omega), e 7 (by omega), e 8 (by omega), e 9 (by omega), e 10 (by omega), e 11 (by omega), e 12 (by omega), e 13 (by omega), e 14 (by omega), e 15 (by omega)]
theorem ret3_int {a b c : Int} (h : b = c) : Ending.returned (.tuple #[.int .i64 a, .int .i64 b, .bool true]) = .returned (.tuple #[.int .i64 a, .int .i64 c, .bool true]) := by rw [h]
theorem load_RBo {ops : Array Oper} {rest : List Oper} {op : Oper} {a : Act} {w : World} {Q : Exit → Act → World → Prop} (hgd : op.guard = none) (x : Operand) (ho : op.op = .load 34 x)
    (B k : Nat) (hx : a.eval x = .pointer (some ⟨B, k * 16, none⟩)) {b : Nat → Int} (hR : RBo B k b w)
    (h : wpList Try.prog ops Q rest (a.put op.dst (.agg #[.int .i64 (b 0), .int .i64 (b 1), .int .i64 (b 2), .int .i64 (b 3), .int .i64 (b 4), .int .i64 (b 5), .int .i64 (b 6), .int .i64 (b 7), .int .i64 (b 8), .int .i64 (b 9), .int .i64 (b 10), .int .i64 (b 11), .int .i64 (b 12), .int .i64 (b 13), .int .i64 (b 14), .int .i64 (b 15)])) w) : wpList Try.prog ops Q (op :: rest) a w :=
  wpList_load_mid hgd 34 x ho B (k * 16) hx [.int .i64 (b 0), .int .i64 (b 1), .int .i64 (b 2), .int .i64 (b 3), .int .i64 (b 4), .int .i64 (b 5), .int .i64 (b 6), .int .i64 (b 7), .int .i64 (b 8), .int .i64 (b 9), .int .i64 (b 10), .int .i64 (b 11), .int .i64 (b 12), .int .i64 (b 13), .int .i64 (b 14), .int .i64 (b 15)] _ hR.r Try.underlying34 rfl (by kernel_rfl) h

set_option maxHeartbeats 8000000 in
set_option maxRecDepth 100000 in
theorem specSlideCycle_no (b : Nat → Int) (x : Nat → Int) (g n cap : Nat) (hn : n ≤ 1048576) (h : scOk b x n = false) (w : World) (hH : Has w g n (fun o => .int .i64 (x o))) :
    Calls Try.prog 76 #[.agg #[.int .i64 (b 0), .int .i64 (b 1), .int .i64 (b 2), .int .i64 (b 3), .int .i64 (b 4), .int .i64 (b 5), .int .i64 (b 6), .int .i64 (b 7), .int .i64 (b 8), .int .i64 (b 9), .int .i64 (b 10), .int .i64 (b 11), .int .i64 (b 12), .int .i64 (b 13), .int .i64 (b 14), .int .i64 (b 15)], .slice (some ⟨g, 0, none⟩) n cap] w fun e w' => e = .returned (.tuple #[.int .i64 0, .int .i64 0, .bool false]) ∧ Below w.heap.size w w' := by
  have HS := hide hH
  clear hH
  cases hb : bdB b
  · clear h
    go_enter Try.func76, Try.ntmps76
    go_upto_region 1 with (fail)
    generalize hW : w.alloc _ = w1
    have hB : Below w.heap.size w w1 := by (rw [← hW]; exact (by repeat (first | (with_reducible exact Below.refl _ _) | (with_reducible assumption) | (with_reducible refine below_go ?_ (by with_reducible assumption)) | (with_reducible refine below_new ?_ _) | ((with_reducible refine below_put ?_ ?_ _); rotate_left; (dsimp only; omega)) | (with_reducible refine Below.drew ?_) | (with_reducible refine below_dn ?_ _))))
    have hsz : Hid (w1.heap.size = w.heap.size + 1) := hide (by rw [← hW]; simp)
    have i0 : Has w1 (w.heap.size) 16 (fun o => .int .i64 (b o)) := by (rw [← hW]; repeat (first | (refine Has.new ?_ rfl; simp; done) | refine Has.alloc ?_ _))
    have ci0 := i0.1; have fi0 := i0.2.1; have zi0 := i0.2.2
    clear hW
    go_wp2_with (first | (go_at_call 89; (with_reducible refine (Calls.bool_as (l2Board_any b _) hb).mono ?_); rintro e w2 ⟨rfl, hb2⟩; have hB' : Below w.heap.size w w2 := below_go (by repeat (first | (with_reducible exact Below.refl _ _) | (with_reducible assumption) | (with_reducible refine below_go ?_ (by with_reducible assumption)) | (with_reducible refine below_new ?_ _) | ((with_reducible refine below_put ?_ ?_ _); rotate_left; (dsimp only; omega)) | (with_reducible refine Below.drew ?_) | (with_reducible refine below_dn ?_ _))) hb2; have i0' : Has w2 (w.heap.size) 16 _ := Has.call (by repeat (first | (with_reducible assumption) | (with_reducible apply Has.set) | ((with_reducible apply Has.other); (case hne => (dsimp only; omega))) | (with_reducible apply Has.alloc) | (with_reducible apply Has.drew) | (with_reducible apply Has.drewN))) hb2; clear hB hb2; have hB := hB'; clear hB'; (try clear fi0); (try clear zi0); (try clear ci0); clear i0; have i0 := i0'; clear i0'; have ci0 := i0.1; have fi0 := i0.2.1; have zi0 := i0.2.2) | (refine load_Board rfl _ rfl _ _ rfl (by repeat (first | (with_reducible assumption) | (with_reducible apply Has.set) | ((with_reducible apply Has.other); (case hne => (dsimp only; omega))) | (with_reducible apply Has.alloc) | (with_reducible apply Has.drew) | (with_reducible apply Has.drewN))) (by omega) ?_))
    go_ret3
    exact ⟨rfl, (by repeat (first | (with_reducible exact Below.refl _ _) | (with_reducible assumption) | (with_reducible refine below_go ?_ (by with_reducible assumption)) | (with_reducible refine below_new ?_ _) | ((with_reducible refine below_put ?_ ?_ _); rotate_left; (dsimp only; omega)) | (with_reducible refine Below.drew ?_) | (with_reducible refine below_dn ?_ _)))⟩
  · cases hc : inB (n : Int) 1 4
    · clear h
      go_enter Try.func76, Try.ntmps76
      go_upto_region 1 with (fail)
      generalize hW : w.alloc _ = w1
      have hB : Below w.heap.size w w1 := by (rw [← hW]; exact (by repeat (first | (with_reducible exact Below.refl _ _) | (with_reducible assumption) | (with_reducible refine below_go ?_ (by with_reducible assumption)) | (with_reducible refine below_new ?_ _) | ((with_reducible refine below_put ?_ ?_ _); rotate_left; (dsimp only; omega)) | (with_reducible refine Below.drew ?_) | (with_reducible refine below_dn ?_ _))))
      have hsz : Hid (w1.heap.size = w.heap.size + 1) := hide (by rw [← hW]; simp)
      have i0 : Has w1 (w.heap.size) 16 (fun o => .int .i64 (b o)) := by (rw [← hW]; repeat (first | (refine Has.new ?_ rfl; simp; done) | refine Has.alloc ?_ _))
      have ci0 := i0.1; have fi0 := i0.2.1; have zi0 := i0.2.2
      clear hW
      go_wp2_with (first | (go_at_call 89; (with_reducible refine (Calls.bool_as (l2Board_any b _) hb).mono ?_); rintro e w2 ⟨rfl, hb2⟩; have hB' : Below w.heap.size w w2 := below_go (by repeat (first | (with_reducible exact Below.refl _ _) | (with_reducible assumption) | (with_reducible refine below_go ?_ (by with_reducible assumption)) | (with_reducible refine below_new ?_ _) | ((with_reducible refine below_put ?_ ?_ _); rotate_left; (dsimp only; omega)) | (with_reducible refine Below.drew ?_) | (with_reducible refine below_dn ?_ _))) hb2; have i0' : Has w2 (w.heap.size) 16 _ := Has.call (by repeat (first | (with_reducible assumption) | (with_reducible apply Has.set) | ((with_reducible apply Has.other); (case hne => (dsimp only; omega))) | (with_reducible apply Has.alloc) | (with_reducible apply Has.drew) | (with_reducible apply Has.drewN))) hb2; clear hB hb2; have hB := hB'; clear hB'; (try clear fi0); (try clear zi0); (try clear ci0); clear i0; have i0 := i0'; clear i0'; have ci0 := i0.1; have fi0 := i0.2.1; have zi0 := i0.2.2) | (go_at_call 127; refine (Calls.bool_eq (l1In_any _ _ _ _) hc).mono ?_; rintro e w1 ⟨rfl, rfl⟩) | (refine load_Board rfl _ rfl _ _ rfl (by repeat (first | (with_reducible assumption) | (with_reducible apply Has.set) | ((with_reducible apply Has.other); (case hne => (dsimp only; omega))) | (with_reducible apply Has.alloc) | (with_reducible apply Has.drew) | (with_reducible apply Has.drewN))) (by omega) ?_))
      go_ret3
      exact ⟨rfl, (by repeat (first | (with_reducible exact Below.refl _ _) | (with_reducible assumption) | (with_reducible refine below_go ?_ (by with_reducible assumption)) | (with_reducible refine below_new ?_ _) | ((with_reducible refine below_put ?_ ?_ _); rotate_left; (dsimp only; omega)) | (with_reducible refine Below.drew ?_) | (with_reducible refine below_dn ?_ _)))⟩
    · have hd : dirsX x n = false := by simpa [scOk, hb, hc] using h
      clear h
      go_enter Try.func76, Try.ntmps76
      go_upto_region 1 with (fail)
      generalize hW : w.alloc _ = w1
      have hB : Below w.heap.size w w1 := by (rw [← hW]; exact (by repeat (first | (with_reducible exact Below.refl _ _) | (with_reducible assumption) | (with_reducible refine below_go ?_ (by with_reducible assumption)) | (with_reducible refine below_new ?_ _) | ((with_reducible refine below_put ?_ ?_ _); rotate_left; (dsimp only; omega)) | (with_reducible refine Below.drew ?_) | (with_reducible refine below_dn ?_ _))))
      have hsz : Hid (w1.heap.size = w.heap.size + 1) := hide (by rw [← hW]; simp)
      have i0 : Has w1 (w.heap.size) 16 (fun o => .int .i64 (b o)) := by (rw [← hW]; repeat (first | (refine Has.new ?_ rfl; simp; done) | refine Has.alloc ?_ _))
      have ci0 := i0.1; have fi0 := i0.2.1; have zi0 := i0.2.2
      clear hW
      go_wp2_with (first | (go_at_call 89; (with_reducible refine (Calls.bool_as (l2Board_any b _) hb).mono ?_); rintro e w2 ⟨rfl, hb2⟩; have hB' : Below w.heap.size w w2 := below_go (by repeat (first | (with_reducible exact Below.refl _ _) | (with_reducible assumption) | (with_reducible refine below_go ?_ (by with_reducible assumption)) | (with_reducible refine below_new ?_ _) | ((with_reducible refine below_put ?_ ?_ _); rotate_left; (dsimp only; omega)) | (with_reducible refine Below.drew ?_) | (with_reducible refine below_dn ?_ _))) hb2; have i0' : Has w2 (w.heap.size) 16 _ := Has.call (by repeat (first | (with_reducible assumption) | (with_reducible apply Has.set) | ((with_reducible apply Has.other); (case hne => (dsimp only; omega))) | (with_reducible apply Has.alloc) | (with_reducible apply Has.drew) | (with_reducible apply Has.drewN))) hb2; clear hB hb2; have hB := hB'; clear hB'; (try clear fi0); (try clear zi0); (try clear ci0); clear i0; have i0 := i0'; clear i0'; have ci0 := i0.1; have fi0 := i0.2.1; have zi0 := i0.2.2) | (go_at_call 127; refine (Calls.bool_eq (l1In_any _ _ _ _) hc).mono ?_; rintro e w1 ⟨rfl, rfl⟩) | (go_at_call 128; refine (Calls.bool_eq (l5Sides_any g n cap x _ hn (HS.out.call hB)) hd).mono ?_; rintro e w1 ⟨rfl, rfl⟩) | (refine load_Board rfl _ rfl _ _ rfl (by repeat (first | (with_reducible assumption) | (with_reducible apply Has.set) | ((with_reducible apply Has.other); (case hne => (dsimp only; omega))) | (with_reducible apply Has.alloc) | (with_reducible apply Has.drew) | (with_reducible apply Has.drewN))) (by omega) ?_))
      go_ret3
      exact ⟨rfl, (by repeat (first | (with_reducible exact Below.refl _ _) | (with_reducible assumption) | (with_reducible refine below_go ?_ (by with_reducible assumption)) | (with_reducible refine below_new ?_ _) | ((with_reducible refine below_put ?_ ?_ _); rotate_left; (dsimp only; omega)) | (with_reducible refine Below.drew ?_) | (with_reducible refine below_dn ?_ _)))⟩

set_option maxHeartbeats 8000000 in
set_option maxRecDepth 100000 in
theorem specSlideCycle_yes (b : Nat → Int) (x : Nat → Int) (g n cap : Nat) (hb : bdB b = true) (hc : inB (n : Int) 1 4 = true) (hd : dirsX x n = true) (K I : Nat) (hK : Cyc (itL b (lsX x n)) K I) (w : World) (hH : Has w g n (fun o => .int .i64 (x o))) :
    Calls Try.prog 76 #[.agg #[.int .i64 (b 0), .int .i64 (b 1), .int .i64 (b 2), .int .i64 (b 3), .int .i64 (b 4), .int .i64 (b 5), .int .i64 (b 6), .int .i64 (b 7), .int .i64 (b 8), .int .i64 (b 9), .int .i64 (b 10), .int .i64 (b 11), .int .i64 (b 12), .int .i64 (b 13), .int .i64 (b 14), .int .i64 (b 15)], .slice (some ⟨g, 0, none⟩) n cap] w fun e w' => e = .returned (.tuple #[.int .i64 I, .int .i64 ((K : Int) - I), .bool true]) ∧ Below w.heap.size w w' := by
  obtain ⟨it0, hi0, hz0, hz1, hz2⟩ := info_parts info_Bd3
  have hn4 : n ≤ 4 := by
    have : (n : Int) ≤ 4 := by simpa [inB] using (by simpa [inB] using hc : (1 : Int) ≤ n ∧ (n : Int) ≤ 4).2
    omega
  have hn : n ≤ 1048576 := by omega
  have HS := hide hH
  have HB := hide (bdB_in hb)
  have HK := hide hK
  have hKc : K ≤ 802963914769 := hK.2.1
  have hIK := hK.1
  have hgl := hH.2.2
  clear hH hK
  have HIT := hide (itL_in HB.out (lsX x n))
  have HM : Hid (∀ k (w' : World), Has w' g n (fun o => .int .i64 (x o)) → Calls Try.prog 129 #[.agg #[.int .i64 ((itL b (lsX x n) k) 0), .int .i64 ((itL b (lsX x n) k) 1), .int .i64 ((itL b (lsX x n) k) 2), .int .i64 ((itL b (lsX x n) k) 3), .int .i64 ((itL b (lsX x n) k) 4), .int .i64 ((itL b (lsX x n) k) 5), .int .i64 ((itL b (lsX x n) k) 6), .int .i64 ((itL b (lsX x n) k) 7), .int .i64 ((itL b (lsX x n) k) 8), .int .i64 ((itL b (lsX x n) k) 9), .int .i64 ((itL b (lsX x n) k) 10), .int .i64 ((itL b (lsX x n) k) 11), .int .i64 ((itL b (lsX x n) k) 12), .int .i64 ((itL b (lsX x n) k) 13), .int .i64 ((itL b (lsX x n) k) 14), .int .i64 ((itL b (lsX x n) k) 15)], .slice (some ⟨g, 0, none⟩) n cap] w' fun e w2 => e = .returned (.tuple #[.agg #[.int .i64 ((itL b (lsX x n) (k + 1)) 0), .int .i64 ((itL b (lsX x n) (k + 1)) 1), .int .i64 ((itL b (lsX x n) (k + 1)) 2), .int .i64 ((itL b (lsX x n) (k + 1)) 3), .int .i64 ((itL b (lsX x n) (k + 1)) 4), .int .i64 ((itL b (lsX x n) (k + 1)) 5), .int .i64 ((itL b (lsX x n) (k + 1)) 6), .int .i64 ((itL b (lsX x n) (k + 1)) 7), .int .i64 ((itL b (lsX x n) (k + 1)) 8), .int .i64 ((itL b (lsX x n) (k + 1)) 9), .int .i64 ((itL b (lsX x n) (k + 1)) 10), .int .i64 ((itL b (lsX x n) (k + 1)) 11), .int .i64 ((itL b (lsX x n) (k + 1)) 12), .int .i64 ((itL b (lsX x n) (k + 1)) 13), .int .i64 ((itL b (lsX x n) (k + 1)) 14), .int .i64 ((itL b (lsX x n) (k + 1)) 15)], .int .i64 (scL (itL b (lsX x n) k) (lsX x n) n)]) ∧ Below w'.heap.size w' w2) :=
    fun k w' hH' => l5Made_any (itL b (lsX x n) k) x g n cap hn (in_bdB (HIT.out k)) hd w' hH'
  have H0 : Hid (itL b (lsX x n) 0 = b) := hide rfl
  generalize hit : itL b (lsX x n) = it at *
  clear hit
  generalize hl : lsX x n = l at *
  clear hl
  go_enter Try.func76, Try.ntmps76
  go_upto_region 1 with (fail)
  generalize hW : w.alloc _ = w1
  have hB : Below w.heap.size w w1 := by (rw [← hW]; exact (by repeat (first | (with_reducible exact Below.refl _ _) | (with_reducible assumption) | (with_reducible refine below_go ?_ (by with_reducible assumption)) | (with_reducible refine below_new ?_ _) | ((with_reducible refine below_put ?_ ?_ _); rotate_left; (dsimp only; omega)) | (with_reducible refine Below.drew ?_) | (with_reducible refine below_dn ?_ _))))
  have hsz : Hid (w1.heap.size = w.heap.size + 1) := hide (by rw [← hW]; simp)
  have i0 : Has w1 (w.heap.size) 16 (fun o => .int .i64 (b o)) := by (rw [← hW]; repeat (first | (refine Has.new ?_ rfl; simp; done) | refine Has.alloc ?_ _))
  have ci0 := i0.1; have fi0 := i0.2.1; have zi0 := i0.2.2
  clear hW
  clear ci0 fi0
  go_upto_region 3 with (first | (go_at_call 89; (with_reducible refine (Calls.bool_as (l2Board_any b _) hb).mono ?_); rintro e w2 ⟨rfl, hb2⟩; have hB' : Below w.heap.size w w2 := below_go (by repeat (first | (with_reducible exact Below.refl _ _) | (with_reducible assumption) | (with_reducible refine below_go ?_ (by with_reducible assumption)) | (with_reducible refine below_new ?_ _) | ((with_reducible refine below_put ?_ ?_ _); rotate_left; (dsimp only; omega)) | (with_reducible refine Below.drew ?_) | (with_reducible refine below_dn ?_ _))) hb2; have i0' : Has w2 (w.heap.size) 16 _ := Has.call (by repeat (first | (with_reducible assumption) | (with_reducible apply Has.set) | ((with_reducible apply Has.other); (case hne => (dsimp only; omega))) | (with_reducible apply Has.alloc) | (with_reducible apply Has.drew) | (with_reducible apply Has.drewN))) hb2; clear hB hb2; have hB := hB'; clear hB'; (try clear fi0); (try clear zi0); (try clear ci0); clear i0; have i0 := i0'; clear i0'; have ci0 := i0.1; have fi0 := i0.2.1; have zi0 := i0.2.2) | (go_at_call 127; refine (Calls.bool_eq (l1In_any _ _ _ _) hc).mono ?_; rintro e w1 ⟨rfl, rfl⟩) | (go_at_call 128; refine (Calls.bool_eq (l5Sides_any g n cap x _ hn (HS.out.call hB)) hd).mono ?_; rintro e w1 ⟨rfl, rfl⟩) | (refine load_Board rfl _ rfl _ _ rfl (by repeat (first | (with_reducible assumption) | (with_reducible apply Has.set) | ((with_reducible apply Has.other); (case hne => (dsimp only; omega))) | (with_reducible apply Has.alloc) | (with_reducible apply Has.drew) | (with_reducible apply Has.drewN))) (by omega) ?_))
  clear hb hc hd
  go_wp2_with (refine load_Board rfl _ rfl _ _ rfl i0 (by omega) ?_)
  generalize hW : World.alloc _ _ = w3
  have hown : w3.ownsRow (w.heap.size + 1) 34 16 (.slice (some ⟨w2.heap.size, 0, none⟩) 1 1) 1 (seenL it 1) := by
    have e : seenL it 1 = (#[.int .i64 (b 0), .int .i64 (b 1), .int .i64 (b 2), .int .i64 (b 3), .int .i64 (b 4), .int .i64 (b 5), .int .i64 (b 6), .int .i64 (b 7), .int .i64 (b 8), .int .i64 (b 9), .int .i64 (b 10), .int .i64 (b 11), .int .i64 (b 12), .int .i64 (b 13), .int .i64 (b 14), .int .i64 (b 15)] : Array Value).toList := by rw [seenL_succ, H0.out]; simp [seenL]
    rw [e, ← hW]
    exact own_full (by have := zi0; omega) (by unfold maxLen; omega) rfl
  have hB' : Below w.heap.size w w3 := by (rw [← hW]; exact below_new hB _)
  clear hW hB i0 ci0 fi0 zi0
  have hB := hB'
  clear hB'
  generalize hSS : w2.heap.size = B2 at *
  clear hSS
  go_loopw [7] (fun v wr => ∃ (v' : Value) (k : Nat), v' = v ∧ k < K ∧ wr.ownsRow (w.heap.size + 1) 34 16 v' (k + 1) (seenL it (k + 1)) ∧ Below w.heap.size w wr) (fun v _ => K - sliceLen v)
  case atStart => exact ⟨_, 0, rfl, by omega, hown, hB⟩
  case round =>
    clear hB hown
    obtain ⟨v0, k, rfl, hk, hown, hB⟩ := hrel
    obtain ⟨A, cp, rfl, hS⟩ := seen_sl hown
    obtain ⟨gs, rfl, hgs, iS⟩ := hS (by omega)
    have hR := rbo_of (k := k) iS (by omega)
    have ziS := iS.2.2
    have iL := HS.out.call hB
    have ziL := iL.2.2
    have a0 : (0 : Int) ≤ k := by omega
    have a1 : (k : Int) < 802963914769 := by omega
    go_upto_region 5 with (first | (refine load_RBo rfl _ rfl _ _ rfl hR ?_; clear hR) | (go_at_call 129; (with_reducible refine (HM.out _ _ iL).mono ?_); rintro e w2 ⟨rfl, hb2⟩; have hown2 := own_call hown hb2; clear hown; have hown := hown2; clear hown2; have hB' : Below w.heap.size w w2 := below_go (by repeat (first | (with_reducible exact Below.refl _ _) | (with_reducible assumption) | (with_reducible refine below_go ?_ (by with_reducible assumption)) | (with_reducible refine below_new ?_ _) | ((with_reducible refine below_put ?_ ?_ _); rotate_left; (dsimp only; omega)) | (with_reducible refine Below.drew ?_) | (with_reducible refine below_dn ?_ _))) hb2; have iL' : Has w2 (g) n _ := Has.call (by repeat (first | (with_reducible assumption) | (with_reducible apply Has.set) | ((with_reducible apply Has.other); (case hne => (dsimp only; omega))) | (with_reducible apply Has.alloc) | (with_reducible apply Has.drew) | (with_reducible apply Has.drewN))) hb2; have iS' : Has w2 (gs) ((k + 1) * 16) _ := Has.call (by repeat (first | (with_reducible assumption) | (with_reducible apply Has.set) | ((with_reducible apply Has.other); (case hne => (dsimp only; omega))) | (with_reducible apply Has.alloc) | (with_reducible apply Has.drew) | (with_reducible apply Has.drewN))) hb2; clear hB hb2; have hB := hB'; clear hB'; (try clear fiL); (try clear ziL); (try clear ciL); clear iL; have iL := iL'; clear iL'; have ciL := iL.1; have fiL := iL.2.1; have ziL := iL.2.2; (try clear fiS); (try clear ziS); (try clear ciS); clear iS; have iS := iS'; clear iS'; have ciS := iS.1; have fiS := iS.2.1; have ziS := iS.2.2) | (refine store_BoardF rfl _ _ rfl _ _ rfl rfl (Has.new' (n := 16) rfl) ?_; intro w3 ho3 hn3; have hB' : Below w.heap.size w w3 := below_only (below_new hB _) ho3 (by omega); have iL' := Has.only (Has.alloc iL _) ho3 (by omega); have iS' := Has.only (Has.alloc iS _) ho3 (by omega); have hownx := own_fresh hown ho3; clear hown; have hown := hownx; clear hownx; have hzj0 := ziS; clear ho3; have j0 := hn3; clear hn3; clear hB; have hB := hB'; clear hB'; (try clear fiL); (try clear ziL); (try clear ciL); clear iL; have iL := iL'; clear iL'; have ciL := iL.1; have fiL := iL.2.1; have ziL := iL.2.2; (try clear fiS); (try clear ziS); (try clear ciS); clear iS; have iS := iS'; clear iS'; have ciS := iS.1; have fiS := iS.2.1; have ziS := iS.2.2; have cj0 := j0.1; have fj0 := j0.2.1; have zj0 := j0.2.2; generalize hS : (World.heap w2).size = B3 at *; clear hS))
    clear cj0 fj0
    have zj0 := j0.2.2
    have hgB : gs ≠ B3 := by omega
    go_wp2_with fail
    clear iL ciL fiL ziL ciS fiS ziS zj0
    go_loopw [10] (fun v wr => ∃ m : Nat, m ≤ k + 1 ∧ v = .int .i64 m ∧ Hid (∀ j, j < m → eqB (it j) (it (k + 1)) = false) ∧ Below w.heap.size w wr ∧ Has wr B3 16 (fun o => .int .i64 (it (k + 1) o)) ∧ Has wr gs ((k + 1) * 16) (seenC it) ∧ wr.ownsRow (w.heap.size + 1) 34 16 (.slice (some ⟨gs, 0, none⟩) (k + 1) cp) (k + 1) (seenL it (k + 1))) (fun v _ => k + 1 - (intOf v).toNat)
    case atStart => exact ⟨0, by omega, rfl, hide (fun j hj => absurd hj (Nat.not_lt_zero _)), hB, j0, iS, hown⟩
    case round =>
      clear hB j0 iS hown
      obtain ⟨m, hm, rfl, hall, hB, j0, iS, hown⟩ := hrel
      have zj0 := j0.2.2
      have ziS := iS.2.2
      by_cases hlt : m < k + 1
      · have b0 : (0 : Int) ≤ m := by omega
        have b1 : (m : Int) < k + 1 := by omega
        have hE := run_eql_Board (it m) (it (k + 1))
        cases he : eqB (it m) (it (k + 1))
        · rw [he] at hE
          have HE := hide he
          clear he
          go_wp2_with fail
          refine wp_region_noPanic ?_
          refine wp_region_held_drew (S := (fun w' => RBo gs m (it m) w' ∧ RB B3 (it (k + 1)) w')) (by kernel_rfl) ?hS01 (fun hHeld => ?_)
          case hS01 => exact ⟨rbo_of iS (by omega), rb_of (Has.drew j0)⟩
          have hB' : Below w.heap.size w (World.drew _) := Below.drew hB
          have iS' := Has.drew iS
          have j0' := Has.drew j0
          have hownx := own_draw hown; clear hown; have hown := hownx; clear hownx
          (try clear ciS); (try clear fiS)
          (try clear cj0); (try clear fj0)
          generalize hWW : World.drew _ = wx at *; clear hWW
          clear hB; have hB := hB'; clear hB'; clear iS ziS; have iS := iS'; clear iS'; have ziS := iS.2.2; clear j0 zj0; have j0 := j0'; clear j0'; have zj0 := j0.2.2
          refine take_d (i := 0) (some 44) (v := ?_) rfl rfl (by kernel_rfl) (by kernel_rfl) (by kernel_rfl) (fun _ _ _ h => h) (Or.inl ⟨by rfl, ?_⟩) (by assumption) ?_
          rotate_left; (intro w hSw; clear hSw; go_simp; try with_reducible rfl)
          all_goals (try simp only [Act.put, List.setIfInBounds_toArray, List.set_cons_zero, List.set_cons_succ])
          refine take_d (i := 1) (some 45) (v := ?_) rfl rfl (by kernel_rfl) (by kernel_rfl) (by kernel_rfl) (fun _ _ _ h => h) (Or.inl ⟨by rfl, ?_⟩) (by assumption) ?_
          rotate_left; (intro w hSw; clear hSw; go_simp; try with_reducible rfl)
          all_goals (try simp only [Act.put, List.setIfInBounds_toArray, List.set_cons_zero, List.set_cons_succ])
          refine take_d (i := 2) (some 46) (v := ?_) rfl rfl (by kernel_rfl) (by kernel_rfl) (by kernel_rfl) (fun _ _ _ h => h) (Or.inl ⟨by rfl, ?_⟩) (by assumption) ?_
          rotate_left; (intro w hSw; clear hSw; go_simp; try with_reducible rfl)
          all_goals (try simp only [Act.put, List.setIfInBounds_toArray, List.set_cons_zero, List.set_cons_succ])
          refine take_d (i := 3) (some 47) (oi := _) (v := _) rfl rfl (by kernel_rfl) (by kernel_rfl) (by kernel_rfl) (fun _ _ _ h => h) (yieldsIf_load_mid (by rfl) _ _ rfl _ _ rfl _ _ (fun w h => h.1.r) Try.underlying34 rfl (by kernel_rfl)) (by assumption) ?_
          all_goals (try simp only [Act.put, List.setIfInBounds_toArray, List.set_cons_zero, List.set_cons_succ])
          refine take_d (i := 4) (some 48) (oi := _) (v := _) rfl rfl (by kernel_rfl) (by kernel_rfl) (by kernel_rfl) (fun _ _ _ h => h) (yieldsIf_load_mid (by rfl) _ _ rfl _ _ rfl _ _ (fun w h => h.2.r) Try.underlying34 rfl (by kernel_rfl)) (by assumption) ?_
          all_goals (try simp only [Act.put, List.setIfInBounds_toArray, List.set_cons_zero, List.set_cons_succ])
          refine take_d (i := 5) (some 49) (v := ?_) rfl rfl (by kernel_rfl) (by kernel_rfl) (by kernel_rfl) (fun _ _ _ h => h) (Or.inl ⟨by rfl, ?_⟩) (by assumption) ?_
          rotate_left; (intro w hSw; clear hSw; go_simp; try with_reducible rfl)
          all_goals (try simp only [Act.put, List.setIfInBounds_toArray, List.set_cons_zero, List.set_cons_succ])
          refine wpAnyH_done (by kernel_rfl) ?_ _
          (try refine NoPanic.normal ?_)
          go_wp2
          go_roundw
          case rel => exact ⟨m + 1, by omega, by go_num, hide (fun j hj => by
            rcases (by omega : j < m ∨ j = m) with h | rfl
            · exact hall.out j h
            · exact HE.out), hB, j0, iS, hown⟩
          case measure => (simp [intOf]; omega)
        · have hKk : K = k + 1 := by
            rcases Nat.lt_or_eq_of_le (show k + 1 ≤ K by omega) with h | h
            · have := HK.out.2.2.2.2 (k + 1) h m hlt
              rw [he] at this; cases this
            · exact h.symm
          subst hKk
          have hmI : m = I := by
            rcases Nat.lt_trichotomy m I with h | h | h
            · have := HK.out.2.2.2.1 m h
              rw [he] at this; cases this
            · exact h
            · have := hall.out I h
              rw [HK.out.2.2.1] at this; cases this
          subst hmI
          rw [he] at hE
          clear he
          go_wp2_with fail
          refine wp_region_noPanic ?_
          refine wp_region_held_drew (S := (fun w' => RBo gs m (it m) w' ∧ RB B3 (it (k + 1)) w')) (by kernel_rfl) ?hS02 (fun hHeld => ?_)
          case hS02 => exact ⟨rbo_of iS (by omega), rb_of (Has.drew j0)⟩
          have hB' : Below w.heap.size w (World.drew _) := Below.drew hB
          have iS' := Has.drew iS
          have j0' := Has.drew j0
          have hownx := own_draw hown; clear hown; have hown := hownx; clear hownx
          (try clear ciS); (try clear fiS)
          (try clear cj0); (try clear fj0)
          generalize hWW : World.drew _ = wx at *; clear hWW
          clear hB; have hB := hB'; clear hB'; clear iS ziS; have iS := iS'; clear iS'; have ziS := iS.2.2; clear j0 zj0; have j0 := j0'; clear j0'; have zj0 := j0.2.2
          refine take_d (i := 0) (some 44) (v := ?_) rfl rfl (by kernel_rfl) (by kernel_rfl) (by kernel_rfl) (fun _ _ _ h => h) (Or.inl ⟨by rfl, ?_⟩) (by assumption) ?_
          rotate_left; (intro w hSw; clear hSw; go_simp; try with_reducible rfl)
          all_goals (try simp only [Act.put, List.setIfInBounds_toArray, List.set_cons_zero, List.set_cons_succ])
          refine take_d (i := 1) (some 45) (v := ?_) rfl rfl (by kernel_rfl) (by kernel_rfl) (by kernel_rfl) (fun _ _ _ h => h) (Or.inl ⟨by rfl, ?_⟩) (by assumption) ?_
          rotate_left; (intro w hSw; clear hSw; go_simp; try with_reducible rfl)
          all_goals (try simp only [Act.put, List.setIfInBounds_toArray, List.set_cons_zero, List.set_cons_succ])
          refine take_d (i := 2) (some 46) (v := ?_) rfl rfl (by kernel_rfl) (by kernel_rfl) (by kernel_rfl) (fun _ _ _ h => h) (Or.inl ⟨by rfl, ?_⟩) (by assumption) ?_
          rotate_left; (intro w hSw; clear hSw; go_simp; try with_reducible rfl)
          all_goals (try simp only [Act.put, List.setIfInBounds_toArray, List.set_cons_zero, List.set_cons_succ])
          refine take_d (i := 3) (some 47) (oi := _) (v := _) rfl rfl (by kernel_rfl) (by kernel_rfl) (by kernel_rfl) (fun _ _ _ h => h) (yieldsIf_load_mid (by rfl) _ _ rfl _ _ rfl _ _ (fun w h => h.1.r) Try.underlying34 rfl (by kernel_rfl)) (by assumption) ?_
          all_goals (try simp only [Act.put, List.setIfInBounds_toArray, List.set_cons_zero, List.set_cons_succ])
          refine take_d (i := 4) (some 48) (oi := _) (v := _) rfl rfl (by kernel_rfl) (by kernel_rfl) (by kernel_rfl) (fun _ _ _ h => h) (yieldsIf_load_mid (by rfl) _ _ rfl _ _ rfl _ _ (fun w h => h.2.r) Try.underlying34 rfl (by kernel_rfl)) (by assumption) ?_
          all_goals (try simp only [Act.put, List.setIfInBounds_toArray, List.set_cons_zero, List.set_cons_succ])
          refine take_d (i := 5) (some 49) (v := ?_) rfl rfl (by kernel_rfl) (by kernel_rfl) (by kernel_rfl) (fun _ _ _ h => h) (Or.inl ⟨by rfl, ?_⟩) (by assumption) ?_
          rotate_left; (intro w hSw; clear hSw; go_simp; try with_reducible rfl)
          all_goals (try simp only [Act.put, List.setIfInBounds_toArray, List.set_cons_zero, List.set_cons_succ])
          refine wpAnyH_done (by kernel_rfl) ?_ _
          (try refine NoPanic.normal ?_)
          go_wp2
          go_ret3
          exact ⟨ret3_int (by omega), hB⟩
      · obtain rfl : m = k + 1 := by omega
        have hlt2 : k + 1 < K := cyc_not HK.out (fun i hi => hall.out i hi) (by omega)
        have HSC := hide (seenL_succ it (k + 1))
        clear hall iS ziS
        go_wp2_with (first | (refine load_Board rfl _ rfl _ _ rfl j0 (by omega) ?_) | (at_builtin; refine wpList_append_own _ rfl (.tmp 55) (.tmp 57) 115 rfl (w.heap.size + 1) 34 it0 (.agg #[.int .i64 0, .int .i64 0, .int .i64 0, .int .i64 0, .int .i64 0, .int .i64 0, .int .i64 0, .int .i64 0, .int .i64 0, .int .i64 0, .int .i64 0, .int .i64 0, .int .i64 0, .int .i64 0, .int .i64 0, .int .i64 0]) 16 128 Try.underlying115 hi0 hz0 hz1 hz2 rfl (by decide) _ (k + 1) (seenL it (k + 1)) rfl (hown.alloc _) ⟨wr.heap.size, 0, none⟩ 1 1 [.int .i64 (it (k + 1) 0), .int .i64 (it (k + 1) 1), .int .i64 (it (k + 1) 2), .int .i64 (it (k + 1) 3), .int .i64 (it (k + 1) 4), .int .i64 (it (k + 1) 5), .int .i64 (it (k + 1) 6), .int .i64 (it (k + 1) 7), .int .i64 (it (k + 1) 8), .int .i64 (it (k + 1) 9), .int .i64 (it (k + 1) 10), .int .i64 (it (k + 1) 11), .int .i64 (it (k + 1) 12), .int .i64 (it (k + 1) 13), .int .i64 (it (k + 1) 14), .int .i64 (it (k + 1) 15)] rfl rfl ?c1 ?c2 ?c3 ?c4 ?c5 ?_))
        case c1 => exact bd_cells
        case c2 => intro u hu; simp only [List.mem_cons, List.not_mem_nil, or_false] at hu; rcases hu with rfl | rfl | rfl | rfl | rfl | rfl | rfl | rfl | rfl | rfl | rfl | rfl | rfl | rfl | rfl | rfl <;> rfl
        case c3 => unfold maxLen; omega
        case c4 => omega
        case c5 => have := hB.size; simp; omega
        intro v' w5 hown' hgrow _
        have hB5 : Below w.heap.size w w5 := (below_new hB _).grown hgrow (by have := hB.size; simp; omega) (fun q hq => by have := (hown.lt q hq).1; omega)
        rw [← HSC.out] at hown'
        have HVL : Hid (sliceLen v' = k + 1 + 1) := by
          obtain ⟨A', cp', h, _⟩ := seen_sl hown'
          rw [h]; exact hide rfl
        clear hown hB hgrow
        go_wp2
        refine ⟨⟨_, k + 1, rfl, hlt2, hown', hB5⟩, ?_⟩
        rw [HVL.out]
        show K - (k + 1 + 1) < K - (k + 1)
        omega

def CyIs (b : Nat → Int) (x : Nat → Int) (n : Nat) (s t : Int) (ok : Bool) : Prop :=
  ok = scOk b x n ∧ (scOk b x n = false → s = 0 ∧ t = 0) ∧ (scOk b x n = true → ∃ K I, Cyc (itL b (lsX x n)) K I ∧ s = I ∧ t = (K : Int) - I)
theorem cyIs_ex (b : Nat → Int) (x : Nat → Int) (n : Nat) : ∃ s t ok, CyIs b x n s t ok := by
  cases h : scOk b x n
  · refine ⟨0, 0, false, h.symm, ?_, ?_⟩
    · intro _; exact ⟨rfl, rfl⟩
    · intro h'; rw [h] at h'; cases h'
  · have h2 := h
    simp only [scOk, Bool.and_eq_true] at h2
    obtain ⟨K, I, hK⟩ := cyc_of (lsX_dirs h2.2.2) (bdB_in h2.1)
    refine ⟨(I : Int), (K : Int) - I, true, h.symm, ?_, ?_⟩
    · intro h'; rw [h] at h'; cases h'
    · intro _; exact ⟨K, I, hK, rfl, rfl⟩
theorem slideCycle_any (b : Nat → Int) (x : Nat → Int) (g n cap : Nat) (hn : n ≤ 1048576) (s t : Int) (ok : Bool) (hF : CyIs b x n s t ok) (w : World) (hH : Has w g n (fun o => .int .i64 (x o))) :
    Calls Try.prog 78 #[.agg #[.int .i64 (b 0), .int .i64 (b 1), .int .i64 (b 2), .int .i64 (b 3), .int .i64 (b 4), .int .i64 (b 5), .int .i64 (b 6), .int .i64 (b 7), .int .i64 (b 8), .int .i64 (b 9), .int .i64 (b 10), .int .i64 (b 11), .int .i64 (b 12), .int .i64 (b 13), .int .i64 (b 14), .int .i64 (b 15)], .slice (some ⟨g, 0, none⟩) n cap] w fun e w' => e = .returned (.tuple #[.int .i64 s, .int .i64 t, .bool ok]) ∧ Below w.heap.size w w' := by
  obtain ⟨rfl, h0, h1⟩ := hF
  cases h : scOk b x n
  · obtain ⟨rfl, rfl⟩ := h0 h
    exact slideCycle_no b x g n cap hn h w hH
  · obtain ⟨K, I, hK, rfl, rfl⟩ := h1 h
    simp only [scOk, Bool.and_eq_true] at h
    exact slideCycle_yes b x g n cap h.1 h.2.1 h.2.2 K I hK w hH
theorem specSlideCycle_any (b : Nat → Int) (x : Nat → Int) (g n cap : Nat) (hn : n ≤ 1048576) (s t : Int) (ok : Bool) (hF : CyIs b x n s t ok) (w : World) (hH : Has w g n (fun o => .int .i64 (x o))) :
    Calls Try.prog 76 #[.agg #[.int .i64 (b 0), .int .i64 (b 1), .int .i64 (b 2), .int .i64 (b 3), .int .i64 (b 4), .int .i64 (b 5), .int .i64 (b 6), .int .i64 (b 7), .int .i64 (b 8), .int .i64 (b 9), .int .i64 (b 10), .int .i64 (b 11), .int .i64 (b 12), .int .i64 (b 13), .int .i64 (b 14), .int .i64 (b 15)], .slice (some ⟨g, 0, none⟩) n cap] w fun e w' => e = .returned (.tuple #[.int .i64 s, .int .i64 t, .bool ok]) ∧ Below w.heap.size w w' := by
  obtain ⟨rfl, h0, h1⟩ := hF
  cases h : scOk b x n
  · obtain ⟨rfl, rfl⟩ := h0 h
    exact specSlideCycle_no b x g n cap hn h w hH
  · obtain ⟨K, I, hK, rfl, rfl⟩ := h1 h
    simp only [scOk, Bool.and_eq_true] at h
    exact specSlideCycle_yes b x g n cap h.1 h.2.1 h.2.2 K I hK w hH

end Go.Proofs.Ytjnmdhnckmmdnaa
