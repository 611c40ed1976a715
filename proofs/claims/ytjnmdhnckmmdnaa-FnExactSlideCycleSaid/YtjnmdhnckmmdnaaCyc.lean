/-
  Contract: SlideCycle, the program's.
-/
import Derived.Test.YtjnmdhnckmmdnaaCycIx
import Derived.Test.YtjnmdhnckmmdnaaDirsX
import Derived.Test.YtjnmdhnckmmdnaaSlides
namespace Go.Proofs.Ytjnmdhnckmmdnaa
open Go.RowKit

def sliceLen : Value → Nat
  | .slice _ n _ => n
  | _ => 0
def scOk (b : Nat → Int) (x : Nat → Int) (n : Nat) : Bool := bdB b && (inB (n : Int) 1 4 && dirsX x n)

set_option maxHeartbeats 8000000 in
set_option maxRecDepth 100000 in
theorem slideCycle_no (b : Nat → Int) (x : Nat → Int) (g n cap : Nat) (hn : n ≤ 1048576) (h : scOk b x n = false) (w : World) (hH : Has w g n (fun o => .int .i64 (x o))) :
    Calls Try.prog 78 #[.agg #[.int .i64 (b 0), .int .i64 (b 1), .int .i64 (b 2), .int .i64 (b 3), .int .i64 (b 4), .int .i64 (b 5), .int .i64 (b 6), .int .i64 (b 7), .int .i64 (b 8), .int .i64 (b 9), .int .i64 (b 10), .int .i64 (b 11), .int .i64 (b 12), .int .i64 (b 13), .int .i64 (b 14), .int .i64 (b 15)], .slice (some ⟨g, 0, none⟩) n cap] w fun e w' => e = .returned (.tuple #[.int .i64 0, .int .i64 0, .bool false]) ∧ Below w.heap.size w w' := by
  have HS := hide hH
  clear hH
  cases hb : bdB b
  · clear h
    go_enter Try.func78, Try.ntmps78
    go_upto_region 1 with (fail)
    generalize hW : w.alloc _ = w1
    have hB : Below w.heap.size w w1 := by (rw [← hW]; exact (by repeat (first | (with_reducible exact Below.refl _ _) | (with_reducible assumption) | (with_reducible refine below_go ?_ (by with_reducible assumption)) | (with_reducible refine below_new ?_ _) | ((with_reducible refine below_put ?_ ?_ _); rotate_left; (dsimp only; omega)) | (with_reducible refine Below.drew ?_) | (with_reducible refine below_dn ?_ _))))
    have hsz : Hid (w1.heap.size = w.heap.size + 1) := hide (by rw [← hW]; simp)
    have i0 : Has w1 (w.heap.size) 16 (fun o => .int .i64 (b o)) := by (rw [← hW]; repeat (first | (refine Has.new ?_ rfl; simp; done) | refine Has.alloc ?_ _))
    have ci0 := i0.1; have fi0 := i0.2.1; have zi0 := i0.2.2
    clear hW
    go_wp2_with (first | (go_at_call 91; (with_reducible refine (Calls.bool_as (isBoard_any b _) hb).mono ?_); rintro e w2 ⟨rfl, hb2⟩; have hB' : Below w.heap.size w w2 := below_go (by repeat (first | (with_reducible exact Below.refl _ _) | (with_reducible assumption) | (with_reducible refine below_go ?_ (by with_reducible assumption)) | (with_reducible refine below_new ?_ _) | ((with_reducible refine below_put ?_ ?_ _); rotate_left; (dsimp only; omega)) | (with_reducible refine Below.drew ?_) | (with_reducible refine below_dn ?_ _))) hb2; have i0' : Has w2 (w.heap.size) 16 _ := Has.call (by repeat (first | (with_reducible assumption) | (with_reducible apply Has.set) | ((with_reducible apply Has.other); (case hne => (dsimp only; omega))) | (with_reducible apply Has.alloc) | (with_reducible apply Has.drew) | (with_reducible apply Has.drewN))) hb2; clear hB hb2; have hB := hB'; clear hB'; (try clear fi0); (try clear zi0); (try clear ci0); clear i0; have i0 := i0'; clear i0'; have ci0 := i0.1; have fi0 := i0.2.1; have zi0 := i0.2.2) | (refine load_Board rfl _ rfl _ _ rfl (by repeat (first | (with_reducible assumption) | (with_reducible apply Has.set) | ((with_reducible apply Has.other); (case hne => (dsimp only; omega))) | (with_reducible apply Has.alloc) | (with_reducible apply Has.drew) | (with_reducible apply Has.drewN))) (by omega) ?_))
    go_ret3
    exact ⟨rfl, (by repeat (first | (with_reducible exact Below.refl _ _) | (with_reducible assumption) | (with_reducible refine below_go ?_ (by with_reducible assumption)) | (with_reducible refine below_new ?_ _) | ((with_reducible refine below_put ?_ ?_ _); rotate_left; (dsimp only; omega)) | (with_reducible refine Below.drew ?_) | (with_reducible refine below_dn ?_ _)))⟩
  · cases hc : inB (n : Int) 1 4
    · clear h
      go_enter Try.func78, Try.ntmps78
      go_upto_region 1 with (fail)
      generalize hW : w.alloc _ = w1
      have hB : Below w.heap.size w w1 := by (rw [← hW]; exact (by repeat (first | (with_reducible exact Below.refl _ _) | (with_reducible assumption) | (with_reducible refine below_go ?_ (by with_reducible assumption)) | (with_reducible refine below_new ?_ _) | ((with_reducible refine below_put ?_ ?_ _); rotate_left; (dsimp only; omega)) | (with_reducible refine Below.drew ?_) | (with_reducible refine below_dn ?_ _))))
      have hsz : Hid (w1.heap.size = w.heap.size + 1) := hide (by rw [← hW]; simp)
      have i0 : Has w1 (w.heap.size) 16 (fun o => .int .i64 (b o)) := by (rw [← hW]; repeat (first | (refine Has.new ?_ rfl; simp; done) | refine Has.alloc ?_ _))
      have ci0 := i0.1; have fi0 := i0.2.1; have zi0 := i0.2.2
      clear hW
      go_wp2_with (first | (go_at_call 91; (with_reducible refine (Calls.bool_as (isBoard_any b _) hb).mono ?_); rintro e w2 ⟨rfl, hb2⟩; have hB' : Below w.heap.size w w2 := below_go (by repeat (first | (with_reducible exact Below.refl _ _) | (with_reducible assumption) | (with_reducible refine below_go ?_ (by with_reducible assumption)) | (with_reducible refine below_new ?_ _) | ((with_reducible refine below_put ?_ ?_ _); rotate_left; (dsimp only; omega)) | (with_reducible refine Below.drew ?_) | (with_reducible refine below_dn ?_ _))) hb2; have i0' : Has w2 (w.heap.size) 16 _ := Has.call (by repeat (first | (with_reducible assumption) | (with_reducible apply Has.set) | ((with_reducible apply Has.other); (case hne => (dsimp only; omega))) | (with_reducible apply Has.alloc) | (with_reducible apply Has.drew) | (with_reducible apply Has.drewN))) hb2; clear hB hb2; have hB := hB'; clear hB'; (try clear fi0); (try clear zi0); (try clear ci0); clear i0; have i0 := i0'; clear i0'; have ci0 := i0.1; have fi0 := i0.2.1; have zi0 := i0.2.2) | (go_at_call 103; refine (Calls.bool_eq (in_any _ _ _ _) hc).mono ?_; rintro e w1 ⟨rfl, rfl⟩) | (refine load_Board rfl _ rfl _ _ rfl (by repeat (first | (with_reducible assumption) | (with_reducible apply Has.set) | ((with_reducible apply Has.other); (case hne => (dsimp only; omega))) | (with_reducible apply Has.alloc) | (with_reducible apply Has.drew) | (with_reducible apply Has.drewN))) (by omega) ?_))
      go_ret3
      exact ⟨rfl, (by repeat (first | (with_reducible exact Below.refl _ _) | (with_reducible assumption) | (with_reducible refine below_go ?_ (by with_reducible assumption)) | (with_reducible refine below_new ?_ _) | ((with_reducible refine below_put ?_ ?_ _); rotate_left; (dsimp only; omega)) | (with_reducible refine Below.drew ?_) | (with_reducible refine below_dn ?_ _)))⟩
    · have hd : dirsX x n = false := by simpa [scOk, hb, hc] using h
      clear h
      go_enter Try.func78, Try.ntmps78
      go_upto_region 1 with (fail)
      generalize hW : w.alloc _ = w1
      have hB : Below w.heap.size w w1 := by (rw [← hW]; exact (by repeat (first | (with_reducible exact Below.refl _ _) | (with_reducible assumption) | (with_reducible refine below_go ?_ (by with_reducible assumption)) | (with_reducible refine below_new ?_ _) | ((with_reducible refine below_put ?_ ?_ _); rotate_left; (dsimp only; omega)) | (with_reducible refine Below.drew ?_) | (with_reducible refine below_dn ?_ _))))
      have hsz : Hid (w1.heap.size = w.heap.size + 1) := hide (by rw [← hW]; simp)
      have i0 : Has w1 (w.heap.size) 16 (fun o => .int .i64 (b o)) := by (rw [← hW]; repeat (first | (refine Has.new ?_ rfl; simp; done) | refine Has.alloc ?_ _))
      have ci0 := i0.1; have fi0 := i0.2.1; have zi0 := i0.2.2
      clear hW
      go_wp2_with (first | (go_at_call 91; (with_reducible refine (Calls.bool_as (isBoard_any b _) hb).mono ?_); rintro e w2 ⟨rfl, hb2⟩; have hB' : Below w.heap.size w w2 := below_go (by repeat (first | (with_reducible exact Below.refl _ _) | (with_reducible assumption) | (with_reducible refine below_go ?_ (by with_reducible assumption)) | (with_reducible refine below_new ?_ _) | ((with_reducible refine below_put ?_ ?_ _); rotate_left; (dsimp only; omega)) | (with_reducible refine Below.drew ?_) | (with_reducible refine below_dn ?_ _))) hb2; have i0' : Has w2 (w.heap.size) 16 _ := Has.call (by repeat (first | (with_reducible assumption) | (with_reducible apply Has.set) | ((with_reducible apply Has.other); (case hne => (dsimp only; omega))) | (with_reducible apply Has.alloc) | (with_reducible apply Has.drew) | (with_reducible apply Has.drewN))) hb2; clear hB hb2; have hB := hB'; clear hB'; (try clear fi0); (try clear zi0); (try clear ci0); clear i0; have i0 := i0'; clear i0'; have ci0 := i0.1; have fi0 := i0.2.1; have zi0 := i0.2.2) | (go_at_call 103; refine (Calls.bool_eq (in_any _ _ _ _) hc).mono ?_; rintro e w1 ⟨rfl, rfl⟩) | (go_at_call 130; refine (Calls.bool_eq (areDirections_any g n cap x _ hn (HS.out.call hB)) hd).mono ?_; rintro e w1 ⟨rfl, rfl⟩) | (refine load_Board rfl _ rfl _ _ rfl (by repeat (first | (with_reducible assumption) | (with_reducible apply Has.set) | ((with_reducible apply Has.other); (case hne => (dsimp only; omega))) | (with_reducible apply Has.alloc) | (with_reducible apply Has.drew) | (with_reducible apply Has.drewN))) (by omega) ?_))
      go_ret3
      exact ⟨rfl, (by repeat (first | (with_reducible exact Below.refl _ _) | (with_reducible assumption) | (with_reducible refine below_go ?_ (by with_reducible assumption)) | (with_reducible refine below_new ?_ _) | ((with_reducible refine below_put ?_ ?_ _); rotate_left; (dsimp only; omega)) | (with_reducible refine Below.drew ?_) | (with_reducible refine below_dn ?_ _)))⟩

set_option maxHeartbeats 8000000 in
set_option maxRecDepth 100000 in
theorem slideCycle_yes (b : Nat → Int) (x : Nat → Int) (g n cap : Nat) (hb : bdB b = true) (hc : inB (n : Int) 1 4 = true) (hd : dirsX x n = true) (K I : Nat) (hK : Cyc (itL b (lsX x n)) K I) (w : World) (hH : Has w g n (fun o => .int .i64 (x o))) :
    Calls Try.prog 78 #[.agg #[.int .i64 (b 0), .int .i64 (b 1), .int .i64 (b 2), .int .i64 (b 3), .int .i64 (b 4), .int .i64 (b 5), .int .i64 (b 6), .int .i64 (b 7), .int .i64 (b 8), .int .i64 (b 9), .int .i64 (b 10), .int .i64 (b 11), .int .i64 (b 12), .int .i64 (b 13), .int .i64 (b 14), .int .i64 (b 15)], .slice (some ⟨g, 0, none⟩) n cap] w fun e w' => e = .returned (.tuple #[.int .i64 I, .int .i64 ((K : Int) - I), .bool true]) ∧ Below w.heap.size w w' := by
  obtain ⟨it0, hi0, hz0, hz1, hz2⟩ := info_parts info_Bd3
  have hn4 : n ≤ 4 := by
    have : (n : Int) ≤ 4 := by simpa [inB] using (by simpa [inB] using hc : (1 : Int) ≤ n ∧ (n : Int) ≤ 4).2
    omega
  have hn : n ≤ 1048576 := by omega
  have HS := hide hH
  have HB := hide (bdB_in hb)
  have HL := hide (lsX_dirs hd)
  have HLn := hide (lsX_len x n)
  have HH := hide (lsX_has hd hH)
  have HK := hide hK
  have hKc : K ≤ 802963914769 := hK.2.1
  have hIK := hK.1
  have hgl := hH.2.2
  clear hH hK
  have HSLn : Hid (∀ (c : Nat → Int), In17 c 16 → ∀ w' : World, Has w' g (lsX x n).length (fI (lsX x n)) → Calls Try.prog 121 #[.agg #[.int .i64 (c 0), .int .i64 (c 1), .int .i64 (c 2), .int .i64 (c 3), .int .i64 (c 4), .int .i64 (c 5), .int .i64 (c 6), .int .i64 (c 7), .int .i64 (c 8), .int .i64 (c 9), .int .i64 (c 10), .int .i64 (c 11), .int .i64 (c 12), .int .i64 (c 13), .int .i64 (c 14), .int .i64 (c 15)], .slice (some ⟨g, 0, none⟩) n cap] w' fun e w2 => e = .returned (.agg #[.int .i64 ((slL c (lsX x n)) 0), .int .i64 ((slL c (lsX x n)) 1), .int .i64 ((slL c (lsX x n)) 2), .int .i64 ((slL c (lsX x n)) 3), .int .i64 ((slL c (lsX x n)) 4), .int .i64 ((slL c (lsX x n)) 5), .int .i64 ((slL c (lsX x n)) 6), .int .i64 ((slL c (lsX x n)) 7), .int .i64 ((slL c (lsX x n)) 8), .int .i64 ((slL c (lsX x n)) 9), .int .i64 ((slL c (lsX x n)) 10), .int .i64 ((slL c (lsX x n)) 11), .int .i64 ((slL c (lsX x n)) 12), .int .i64 ((slL c (lsX x n)) 13), .int .i64 ((slL c (lsX x n)) 14), .int .i64 ((slL c (lsX x n)) 15)]) ∧ Below w'.heap.size w' w2) := by
    intro c hcI w' hH'
    have := slides_any c hcI (lsX x n) HL.out (by rw [HLn.out]; omega) g cap w' hH'
    rw [HLn.out] at this
    exact this
  have HIT := hide (itL_in HB.out (lsX x n))
  generalize hl : lsX x n = l at *
  have H0 : Hid (itL b l 0 = b) := hide rfl
  have H1 : Hid (∀ k, itL b l (k + 1) = slL (itL b l k) l) := hide fun _ => rfl
  generalize hit : itL b l = it at *
  clear hl hit
  go_enter Try.func78, Try.ntmps78
  go_upto_region 1 with (fail)
  generalize hW : w.alloc _ = w1
  have hB : Below w.heap.size w w1 := by (rw [← hW]; exact (by repeat (first | (with_reducible exact Below.refl _ _) | (with_reducible assumption) | (with_reducible refine below_go ?_ (by with_reducible assumption)) | (with_reducible refine below_new ?_ _) | ((with_reducible refine below_put ?_ ?_ _); rotate_left; (dsimp only; omega)) | (with_reducible refine Below.drew ?_) | (with_reducible refine below_dn ?_ _))))
  have hsz : Hid (w1.heap.size = w.heap.size + 1) := hide (by rw [← hW]; simp)
  have i0 : Has w1 (w.heap.size) 16 (fun o => .int .i64 (b o)) := by (rw [← hW]; repeat (first | (refine Has.new ?_ rfl; simp; done) | refine Has.alloc ?_ _))
  have ci0 := i0.1; have fi0 := i0.2.1; have zi0 := i0.2.2
  clear hW
  clear ci0 fi0
  go_upto_region 3 with (first | (go_at_call 91; (with_reducible refine (Calls.bool_as (isBoard_any b _) hb).mono ?_); rintro e w2 ⟨rfl, hb2⟩; have hB' : Below w.heap.size w w2 := below_go (by repeat (first | (with_reducible exact Below.refl _ _) | (with_reducible assumption) | (with_reducible refine below_go ?_ (by with_reducible assumption)) | (with_reducible refine below_new ?_ _) | ((with_reducible refine below_put ?_ ?_ _); rotate_left; (dsimp only; omega)) | (with_reducible refine Below.drew ?_) | (with_reducible refine below_dn ?_ _))) hb2; have i0' : Has w2 (w.heap.size) 16 _ := Has.call (by repeat (first | (with_reducible assumption) | (with_reducible apply Has.set) | ((with_reducible apply Has.other); (case hne => (dsimp only; omega))) | (with_reducible apply Has.alloc) | (with_reducible apply Has.drew) | (with_reducible apply Has.drewN))) hb2; clear hB hb2; have hB := hB'; clear hB'; (try clear fi0); (try clear zi0); (try clear ci0); clear i0; have i0 := i0'; clear i0'; have ci0 := i0.1; have fi0 := i0.2.1; have zi0 := i0.2.2) | (go_at_call 103; refine (Calls.bool_eq (in_any _ _ _ _) hc).mono ?_; rintro e w1 ⟨rfl, rfl⟩) | (go_at_call 130; refine (Calls.bool_eq (areDirections_any g n cap x _ hn (HS.out.call hB)) hd).mono ?_; rintro e w1 ⟨rfl, rfl⟩) | (refine load_Board rfl _ rfl _ _ rfl (by repeat (first | (with_reducible assumption) | (with_reducible apply Has.set) | ((with_reducible apply Has.other); (case hne => (dsimp only; omega))) | (with_reducible apply Has.alloc) | (with_reducible apply Has.drew) | (with_reducible apply Has.drewN))) (by omega) ?_))
  clear hb hc hd
  go_wp2_with fail
  generalize hW : World.alloc _ _ = w3
  have hown : w3.ownsRow (w.heap.size + 1) 34 16 (.slice (some ⟨w2.heap.size, 0, none⟩) 0 0) 0 (seenL it 0) := own_made0 hW (by have := zi0; omega)
  have hB' : Below w.heap.size w w3 := by (rw [← hW]; exact below_new hB _)
  have i0' : Has w3 w.heap.size 16 (fun o => .int .i64 (it 0 o)) := by rw [H0.out]; exact Has.at hW (Has.alloc i0 _)
  clear hW hB i0 ci0 fi0
  have hB := hB'; have i0 := i0'
  clear hB' i0'
  generalize hSS : w2.heap.size = B2 at *
  clear hSS
  go_loopw [7] (fun v wr => ∃ (v' : Value) (k : Nat), v' = v ∧ k ≤ K ∧ wr.ownsRow (w.heap.size + 1) 34 16 v' k (seenL it k) ∧ Below w.heap.size w wr ∧ Has wr w.heap.size 16 (fun o => .int .i64 (it k o))) (fun v _ => K - sliceLen v)
  case atStart => exact ⟨_, 0, rfl, by omega, hown, hB, i0⟩
  case round =>
    clear hB i0 hown
    obtain ⟨v0, k, rfl, hk, hown, hB, i0⟩ := hrel
    obtain ⟨A, cp, rfl, hS⟩ := seen_sl hown
    have hkc : k ≤ cycN := Nat.le_trans hk HK.out.2.1
    have HKC := hide hkc
    clear hkc
    have HI := hide (HIT.out k)
    have zi0 := i0.2.2
    go_upto_region 6 with (first | (refine load_Board rfl _ rfl _ _ rfl (by repeat (first | (with_reducible assumption) | (with_reducible apply Has.set) | ((with_reducible apply Has.other); (case hne => (dsimp only; omega))) | (with_reducible apply Has.alloc) | (with_reducible apply Has.drew) | (with_reducible apply Has.drewN))) (by omega) ?_) | (go_at_call 131; (with_reducible refine (indexB_any _ _ _ _ _ HKC.out _ _ hS).mono ?_); rintro e w2 ⟨i, rfl, hix, hb2⟩; have hown2 := own_call hown hb2; clear hown; have hown := hown2; clear hown2; clear hS; have HIX := hide hix; clear hix; have hB' : Below w.heap.size w w2 := below_go (by repeat (first | (with_reducible exact Below.refl _ _) | (with_reducible assumption) | (with_reducible refine below_go ?_ (by with_reducible assumption)) | (with_reducible refine below_new ?_ _) | ((with_reducible refine below_put ?_ ?_ _); rotate_left; (dsimp only; omega)) | (with_reducible refine Below.drew ?_) | (with_reducible refine below_dn ?_ _))) hb2; have i0' : Has w2 (w.heap.size) 16 _ := Has.call (by repeat (first | (with_reducible assumption) | (with_reducible apply Has.set) | ((with_reducible apply Has.other); (case hne => (dsimp only; omega))) | (with_reducible apply Has.alloc) | (with_reducible apply Has.drew) | (with_reducible apply Has.drewN))) hb2; clear hB hb2; have hB := hB'; clear hB'; (try clear fi0); (try clear zi0); (try clear ci0); clear i0; have i0 := i0'; clear i0'; have ci0 := i0.1; have fi0 := i0.2.1; have zi0 := i0.2.2))
    rcases HIX.out with ⟨rfl, hno⟩ | ⟨m, hm, rfl, heq, hno⟩
    · have hlt : k < K := cyc_not HK.out (fun i hi => by rw [eqB_comm]; exact hno i hi) hk
      have HSC := hide (seenL_succ it k)
      have HN := hide (H1.out k)
      clear hno HIX
      go_wp2_with (first | (refine load_Board rfl _ rfl _ _ rfl i0 (by omega) ?_) | (at_builtin; refine wpList_append_own _ rfl (.tmp 37) (.tmp 39) 115 rfl (w.heap.size + 1) 34 it0 (.agg #[.int .i64 0, .int .i64 0, .int .i64 0, .int .i64 0, .int .i64 0, .int .i64 0, .int .i64 0, .int .i64 0, .int .i64 0, .int .i64 0, .int .i64 0, .int .i64 0, .int .i64 0, .int .i64 0, .int .i64 0, .int .i64 0]) 16 128 Try.underlying115 hi0 hz0 hz1 hz2 rfl (by decide) _ k (seenL it k) rfl (hown.alloc _) ⟨w2.heap.size, 0, none⟩ 1 1 [.int .i64 (it k 0), .int .i64 (it k 1), .int .i64 (it k 2), .int .i64 (it k 3), .int .i64 (it k 4), .int .i64 (it k 5), .int .i64 (it k 6), .int .i64 (it k 7), .int .i64 (it k 8), .int .i64 (it k 9), .int .i64 (it k 10), .int .i64 (it k 11), .int .i64 (it k 12), .int .i64 (it k 13), .int .i64 (it k 14), .int .i64 (it k 15)] rfl rfl ?c1 ?c2 ?c3 ?c4 ?c5 ?_))
      case c1 => exact bd_cells
      case c2 => intro u hu; simp only [List.mem_cons, List.not_mem_nil, or_false] at hu; rcases hu with rfl | rfl | rfl | rfl | rfl | rfl | rfl | rfl | rfl | rfl | rfl | rfl | rfl | rfl | rfl | rfl <;> rfl
      case c3 => unfold maxLen; omega
      case c4 => omega
      case c5 => have := hB.size; simp; omega
      intro v' w5 hown' hgrow _
      have hB5 : Below w.heap.size w w5 := (below_new hB _).grown hgrow (by have := hB.size; simp; omega) (fun q hq => by have := (hown.lt q hq).1; omega)
      have i05 := (i0.alloc _).grown hgrow (own_at_ne hown (by omega))
      rw [← HSC.out] at hown'
      have HVL : Hid (sliceLen v' = k + 1) := by
        obtain ⟨A', cp', h, _⟩ := seen_sl hown'
        rw [h]; exact hide rfl
      clear hown hB i0 hgrow ci0 fi0 zi0
      have hown := hown'; have hB := hB5; have i0 := i05
      clear hown' hB5 i05
      have zi0 := i0.2.2
      go_wp2_with (first | (refine load_Board rfl _ rfl _ _ rfl (by repeat (first | (with_reducible assumption) | (with_reducible apply Has.set) | ((with_reducible apply Has.other); (case hne => (dsimp only; omega))) | (with_reducible apply Has.alloc) | (with_reducible apply Has.drew) | (with_reducible apply Has.drewN))) (by omega) ?_) | (go_at_call 121; (with_reducible refine (HSLn.out _ HI.out _ (HH.out.call hB)).mono ?_); rintro e w2 ⟨rfl, hb2⟩; have hown2 := own_call hown hb2; clear hown; have hown := hown2; clear hown2; have hB' : Below w.heap.size w w2 := below_go (by repeat (first | (with_reducible exact Below.refl _ _) | (with_reducible assumption) | (with_reducible refine below_go ?_ (by with_reducible assumption)) | (with_reducible refine below_new ?_ _) | ((with_reducible refine below_put ?_ ?_ _); rotate_left; (dsimp only; omega)) | (with_reducible refine Below.drew ?_) | (with_reducible refine below_dn ?_ _))) hb2; have i0' : Has w2 (w.heap.size) 16 _ := Has.call (by repeat (first | (with_reducible assumption) | (with_reducible apply Has.set) | ((with_reducible apply Has.other); (case hne => (dsimp only; omega))) | (with_reducible apply Has.alloc) | (with_reducible apply Has.drew) | (with_reducible apply Has.drewN))) hb2; clear hB hb2; have hB := hB'; clear hB'; (try clear fi0); (try clear zi0); (try clear ci0); clear i0; have i0 := i0'; clear i0'; have ci0 := i0.1; have fi0 := i0.2.1; have zi0 := i0.2.2) | (refine store_BoardF rfl _ _ rfl _ _ rfl rfl i0 ?_; intro w6 ho6 hn6; have hB' : Below w.heap.size w w6 := below_only hB ho6 (by omega); have hown2 := own_only hown ho6 (by omega); clear hown hB i0 ho6 ci0 fi0 zi0; have hown := hown2; have hB := hB'; have i0 := hn6; clear hown2 hB' hn6))
      refine ⟨?_, ?_⟩
      · (repeat apply Exists.intro)
        exact ⟨⟨_, k + 1, rfl, by omega, hown, hB, by rw [HN.out]; exact i0⟩, rfl⟩
      · show K - sliceLen v' < K - sliceLen (.slice A k cp)
        rw [HVL.out]
        show K - (k + 1) < K - k
        omega
    · have hkK : k = K := by
        rcases Nat.lt_or_eq_of_le hk with h | h
        · have := HK.out.2.2.2.2 k h m hm
          rw [eqB_comm, heq] at this; cases this
        · exact h
      subst hkK
      have hmI : m = I := by
        rcases Nat.lt_trichotomy m I with h | h | h
        · have := HK.out.2.2.2.1 m h
          rw [eqB_comm, heq] at this; cases this
        · exact h
        · have := hno I h
          rw [eqB_comm, HK.out.2.2.1] at this; cases this
      subst hmI
      clear hno heq HIX
      have a0 : (0 : Int) ≤ m := by omega
      have a1 : (m : Int) ≤ k := by omega
      have a2 : (k : Int) ≤ 802963914769 := by omega
      go_wp2
      go_ret3
      exact ⟨rfl, hB⟩

end Go.Proofs.Ytjnmdhnckmmdnaa
