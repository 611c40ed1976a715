/-
  Contracts: the greatest tile; HighestTile, the program's.
-/
import Derived.Test.YtjnmdhnckmmdnaaCellLoop
import Derived.Test.YtjnmdhnckmmdnaaManyMath
import Derived.Test.YtjnmdhnckmmdnaaBoard2
import Derived.Test.YtjnmdhnckmmdnaaDir
import Derived.Test.YtjnmdhnckmmdnaaEqlB
import Derived.Test.YtjnmdhnckmmdnaaTkWords
namespace Go.Proofs.Ytjnmdhnckmmdnaa
open Go.RowKit

/-- The cells of place p. -/
def plC (p : Nat) : Nat → Value := fun o => if o = 0 then .int .i64 ((p / 4 : Nat) : Int) else .int .i64 ((p % 4 : Nat) : Int)
def zB : Nat → Int := fun _ => 0
def hiX (b : Nat → Int) : Int := zr (bdB b) ((hiP b 16 / 4 : Nat) : Int)
def hiY (b : Nat → Int) : Int := zr (bdB b) ((hiP b 16 % 4 : Nat) : Int)
def hiOk (b : Nat → Int) : Bool := bdB b && decide (0 < hiT b 16)
theorem hi_zero {b : Nat → Int} (h : eqB b zB = true) : hiT b 16 = 0 ∧ hiP b 16 = 0 := hiT_zero 16 fun p hp => eqB_true.1 h p hp
theorem hi_pos {b : Nat → Int} (hb : In17 b 16) (h : eqB b zB = false) : 0 < hiT b 16 := by
  by_cases h1 : 0 < hiT b 16
  · exact h1
  · exfalso
    have h2 : eqB b zB = true := eqB_true.2 fun p hp => by
      have := (hiT_ge b 16).2 p hp
      have := (hb p hp).1
      show b p = 0
      omega
    rw [h] at h2; cases h2
theorem results_t_cell {P : Program} {fn : Func} {p q : Tmp} {ty : TypeId} {tmps : Array Value} {w : World} {b : Nat} {v : Value} (h : fn.results = #[.tmp q, .cell p ty]) (hp : tmps.getD p undef = .pointer (some ⟨b, 0, none⟩))
    (hl : (loadVar ty ⟨b, 0, none⟩).run P w = .ok v w) : (results fn tmps).run P w = .ok (.tuple #[tmps.getD q undef, v]) w := by
  have hp' : tmps[p]?.getD undef = .pointer (some ⟨b, 0, none⟩) := by simpa using hp
  simp [results, h, hp', asAddr, hl]
theorem keepH {w' : World} {B0 : Nat} {x y : Value} (h0 : Has w' B0 2 (fun o => if o = 0 then x else y)) : w'.cell? ⟨B0, 0, none⟩ = some x ∧ w'.cell? ⟨B0, 1, none⟩ = some y := ⟨two_x h0, two_y h0⟩

set_option maxHeartbeats 8000000 in
set_option maxRecDepth 100000 in
theorem highest_any (b : Nat → Int) (hb : In17 b 16) (w : World) :
    Calls Try.prog 96 #[.agg #[.int .i64 (b 0), .int .i64 (b 1), .int .i64 (b 2), .int .i64 (b 3), .int .i64 (b 4), .int .i64 (b 5), .int .i64 (b 6), .int .i64 (b 7), .int .i64 (b 8), .int .i64 (b 9), .int .i64 (b 10), .int .i64 (b 11), .int .i64 (b 12), .int .i64 (b 13), .int .i64 (b 14), .int .i64 (b 15)]] w fun e w' => e = .returned (.tuple #[.int .i64 (hiT b 16), .agg #[.int .i64 ((hiP b 16 / 4 : Nat) : Int), .int .i64 ((hiP b 16 % 4 : Nat) : Int)]]) ∧ Below w.heap.size w w' := by
  have HB := hide hb
  clear hb
  go_enter Try.func96, Try.ntmps96
  go_upto_region 2 with (fail)
  generalize hW : ((w.alloc _).alloc _).alloc _ = w1
  have hB : Below w.heap.size w w1 := by (rw [← hW]; exact (by repeat (first | (with_reducible exact Below.refl _ _) | (with_reducible assumption) | (with_reducible refine below_go ?_ (by with_reducible assumption)) | (with_reducible refine below_new ?_ _) | ((with_reducible refine below_put ?_ ?_ _); rotate_left; (dsimp only; omega)) | (with_reducible refine Below.drew ?_) | (with_reducible refine below_dn ?_ _))))
  have hsz : Hid (w1.heap.size = w.heap.size + 1 + 1 + 1) := hide (by rw [← hW]; simp)
  have i0 : Has w1 (w.heap.size) 16 (fun o => .int .i64 (b o)) := by (rw [← hW]; repeat (first | (refine Has.new ?_ rfl; simp; done) | refine Has.alloc ?_ _))
  have ci0 := i0.1; have fi0 := i0.2.1; have zi0 := i0.2.2
  have i1 : Has w1 (w.heap.size + 1) 2 (fun _ => .int .i64 0) := by (rw [← hW]; repeat (first | (refine Has.new ?_ rfl; simp; done) | refine Has.alloc ?_ _))
  have ci1 := i1.1; have fi1 := i1.2.1; have zi1 := i1.2.2
  have i2 : Has w1 (w.heap.size + 1 + 1) 2 (fun _ => .int .i64 0) := by (rw [← hW]; repeat (first | (refine Has.new ?_ rfl; simp; done) | refine Has.alloc ?_ _))
  have ci2 := i2.1; have fi2 := i2.2.1; have zi2 := i2.2.2
  clear hW
  go_wp2_with (go_at_call 92; (with_reducible refine (cells_any _).mono ?_); rintro e w2 ⟨g, cap, rfl, hg, hcap, iC, hb2⟩; have hB' : Below w.heap.size w w2 := below_go (by repeat (first | (with_reducible exact Below.refl _ _) | (with_reducible assumption) | (with_reducible refine below_go ?_ (by with_reducible assumption)) | (with_reducible refine below_new ?_ _) | ((with_reducible refine below_put ?_ ?_ _); rotate_left; (dsimp only; omega)) | (with_reducible refine Below.drew ?_) | (with_reducible refine below_dn ?_ _))) hb2; have i0' : Has w2 (w.heap.size) 16 _ := Has.call (by repeat (first | (with_reducible assumption) | (with_reducible apply Has.set) | ((with_reducible apply Has.other); (case hne => (dsimp only; omega))) | (with_reducible apply Has.alloc) | (with_reducible apply Has.drew) | (with_reducible apply Has.drewN))) hb2; have i1' : Has w2 (w.heap.size + 1) 2 _ := Has.call (by repeat (first | (with_reducible assumption) | (with_reducible apply Has.set) | ((with_reducible apply Has.other); (case hne => (dsimp only; omega))) | (with_reducible apply Has.alloc) | (with_reducible apply Has.drew) | (with_reducible apply Has.drewN))) hb2; have i2' : Has w2 (w.heap.size + 1 + 1) 2 _ := Has.call (by repeat (first | (with_reducible assumption) | (with_reducible apply Has.set) | ((with_reducible apply Has.other); (case hne => (dsimp only; omega))) | (with_reducible apply Has.alloc) | (with_reducible apply Has.drew) | (with_reducible apply Has.drewN))) hb2; clear hB hb2; have hB := hB'; clear hB'; (try clear fi0); (try clear zi0); (try clear ci0); clear i0; have i0 := i0'; clear i0'; have ci0 := i0.1; have fi0 := i0.2.1; have zi0 := i0.2.2; (try clear fi1); (try clear zi1); (try clear ci1); clear i1; have i1 := i1'; clear i1'; have ci1 := i1.1; have fi1 := i1.2.1; have zi1 := i1.2.2; (try clear fi2); (try clear zi2); (try clear ci2); clear i2; have i2 := i2'; clear i2'; have ci2 := i2.1; have fi2 := i2.2.1; have zi2 := i2.2.2)
  have hg1 : w.heap.size + 1 + 1 < g := by have := hsz.out; omega
  have i2 := i2.congr (d := plC (hiP b 0)) (fun o _ => by unfold plC hiP; split <;> rfl)
  clear ci0 fi0 zi0 ci1 fi1 zi1 ci2 fi2 zi2 hsz
  go_loopw [4, 12] (fun v4 v wr => ∃ k : Nat, k ≤ 16 ∧ v = .int .i64 k ∧ v4 = .int .i64 (hiT b k) ∧ Below w.heap.size w wr ∧ Has wr w.heap.size 16 (fun o => .int .i64 (b o)) ∧ Has wr (w.heap.size + 1) 2 (fun _ => .int .i64 0) ∧ Has wr (w.heap.size + 1 + 1) 2 (plC (hiP b k)) ∧ Has wr g 32 (fun p => .int .i64 (cellC p))) (fun _ i _ => 16 - (intOf i).toNat)
  case atStart => exact ⟨0, by omega, rfl, rfl, hB, i0, i1, i2, iC⟩
  case round =>
    clear hB i0 i1 i2 iC
    obtain ⟨k, hk, rfl, rfl, hB, i0, i1, i2, iC⟩ := hrel
    by_cases h4 : k = 16
    · subst h4
      have i2 : Has wr (w.heap.size + 1 + 1) 2 (fun o => if o = 0 then .int .i64 ((hiP b 16 / 4 : Nat) : Int) else .int .i64 ((hiP b 16 % 4 : Nat) : Int)) := i2
      have ci1 := i1.1; have fi1 := i1.2.1; have zi1 := i1.2.2
      have c0 : wr.cell? ⟨w.heap.size + 1 + 1, 0, none⟩ = some (.int .i64 ((hiP b 16 / 4 : Nat) : Int)) := two_x i2
      have c1 : wr.cell? ⟨w.heap.size + 1 + 1, 1, none⟩ = some (.int .i64 ((hiP b 16 % 4 : Nat) : Int)) := two_y i2
      go_wp2_with fail
      go_region_held3 (fun w' => w'.cell? ⟨w.heap.size + 1 + 1, 0, none⟩ = some (.int .i64 ((hiP b 16 / 4 : Nat) : Int)) ∧ w'.cell? ⟨w.heap.size + 1 + 1, 1, none⟩ = some (.int .i64 ((hiP b 16 % 4 : Nat) : Int))) (first
        | exact keepH i2
        | exact keepH (Has.drew i2)
        | exact keepH (by repeat (first | (with_reducible assumption) | (with_reducible apply Has.set) | ((with_reducible apply Has.other); (case hne => (dsimp only; omega))) | (with_reducible apply Has.alloc) | (with_reducible apply Has.drew) | (with_reducible apply Has.drewN)))) (fail)
      all_goals
        go_wp2
        refine bodyPost_ret (results_t_cell rfl rfl (loadVar_A2 (by first | exact (Has.set (Has.set i1)) | exact (Has.drew (Has.set (Has.set i1)))) (by omega))) rfl ⟨rfl, (by repeat (first | (with_reducible exact Below.refl _ _) | (with_reducible assumption) | (with_reducible refine below_go ?_ (by with_reducible assumption)) | (with_reducible refine below_new ?_ _) | ((with_reducible refine below_put ?_ ?_ _); rotate_left; (dsimp only; omega)) | (with_reducible refine Below.drew ?_) | (with_reducible refine below_dn ?_ _)))⟩
    · have hlt : k < 16 := by omega
      obtain ⟨x, y, hx0, hx3, hy0, hy3, hxy0, hxy, q1, q2⟩ := cell_xy iC hlt
      obtain ⟨hb0, hb1⟩ := HB.out k hlt
      have ci0 := i0.1; have fi0 := i0.2.1; have zi0 := i0.2.2
      have zi2 := i2.2.2; have ziC := iC.2.2
      by_cases hc : hiT b k < b k
      · have HT := hide (show hiT b (k + 1) = b k from if_pos hc)
        have HP := hide (show hiP b (k + 1) = k from if_pos hc)
        go_upto_region 5 with (fail)
        have hz1 : w.heap.size + 1 + 1 < wr.heap.size := zi2
        have hz2 : g < wr.heap.size := ziC
        clear q1 q2
        generalize hW : (World.alloc wr _) = w1
        have hB' : Below w.heap.size w w1 := by (rw [← hW]; exact (by repeat (first | (with_reducible exact Below.refl _ _) | (with_reducible assumption) | (with_reducible refine below_go ?_ (by with_reducible assumption)) | (with_reducible refine below_new ?_ _) | ((with_reducible refine below_put ?_ ?_ _); rotate_left; (dsimp only; omega)) | (with_reducible refine Below.drew ?_) | (with_reducible refine below_dn ?_ _))))
        have i0' := Has.at hW (B := w.heap.size) (n := 16) (by repeat (first | (with_reducible assumption) | (with_reducible apply Has.set) | ((with_reducible apply Has.other); (case hne => (dsimp only; omega))) | (with_reducible apply Has.alloc) | (with_reducible apply Has.drew) | (with_reducible apply Has.drewN)))
        have i1' := Has.at hW (B := w.heap.size + 1) (n := 2) (by repeat (first | (with_reducible assumption) | (with_reducible apply Has.set) | ((with_reducible apply Has.other); (case hne => (dsimp only; omega))) | (with_reducible apply Has.alloc) | (with_reducible apply Has.drew) | (with_reducible apply Has.drewN)))
        have i2' := Has.at hW (B := w.heap.size + 1 + 1) (n := 2) (by repeat (first | (with_reducible assumption) | (with_reducible apply Has.set) | ((with_reducible apply Has.other); (case hne => (dsimp only; omega))) | (with_reducible apply Has.alloc) | (with_reducible apply Has.drew) | (with_reducible apply Has.drewN)))
        have iC' := Has.at hW (B := g) (n := 32) (by repeat (first | (with_reducible assumption) | (with_reducible apply Has.set) | ((with_reducible apply Has.other); (case hne => (dsimp only; omega))) | (with_reducible apply Has.alloc) | (with_reducible apply Has.drew) | (with_reducible apply Has.drewN)))
        have j7 := Has.at hW (n := 2) (Has.new' rfl)
        try simp only [World.size_alloc] at j7
        clear hW; clear hB; have hB := hB'; clear hB'; (try clear fi0); (try clear zi0); (try clear ci0); clear i0; have i0 := i0'; clear i0'; have ci0 := i0.1; have fi0 := i0.2.1; have zi0 := i0.2.2; (try clear fi1); (try clear zi1); (try clear ci1); clear i1; have i1 := i1'; clear i1'; have ci1 := i1.1; have fi1 := i1.2.1; have zi1 := i1.2.2; (try clear fi2); (try clear zi2); (try clear ci2); clear i2; have i2 := i2'; clear i2'; have ci2 := i2.1; have fi2 := i2.2.1; have zi2 := i2.2.2; (try clear fiC); (try clear ziC); (try clear ciC); clear iC; have iC := iC'; clear iC'; have ciC := iC.1; have fiC := iC.2.1; have ziC := iC.2.2; have cj7 := j7.1; have fj7 := j7.2.1; have zj7 := j7.2.2
        generalize hS : wr.heap.size = B7 at *
        clear hS
        have j7 : Has w1 B7 2 (fun o => if o = 0 then .int .i64 x else .int .i64 y) := j7.congr fun o ho => by rcases (by omega : o = 0 ∨ o = 1) with rfl | rfl <;> rfl
        clear cj7 fj7
        have cj7 := j7.1
        go_upto_region 7 with (first | (go_at_call 93; (with_reducible refine (at_xy _ _ _ _ hx0 hx3 hy0 hy3 hxy _).mono ?_); rintro e w2 ⟨rfl, hb2⟩; have hB' : Below w.heap.size w w2 := below_go (by repeat (first | (with_reducible exact Below.refl _ _) | (with_reducible assumption) | (with_reducible refine below_go ?_ (by with_reducible assumption)) | (with_reducible refine below_new ?_ _) | ((with_reducible refine below_put ?_ ?_ _); rotate_left; (dsimp only; omega)) | (with_reducible refine Below.drew ?_) | (with_reducible refine below_dn ?_ _))) hb2; have i0' : Has w2 (w.heap.size) 16 _ := Has.call (by repeat (first | (with_reducible assumption) | (with_reducible apply Has.set) | ((with_reducible apply Has.other); (case hne => (dsimp only; omega))) | (with_reducible apply Has.alloc) | (with_reducible apply Has.drew) | (with_reducible apply Has.drewN))) hb2; have i1' : Has w2 (w.heap.size + 1) 2 _ := Has.call (by repeat (first | (with_reducible assumption) | (with_reducible apply Has.set) | ((with_reducible apply Has.other); (case hne => (dsimp only; omega))) | (with_reducible apply Has.alloc) | (with_reducible apply Has.drew) | (with_reducible apply Has.drewN))) hb2; have i2' : Has w2 (w.heap.size + 1 + 1) 2 _ := Has.call (by repeat (first | (with_reducible assumption) | (with_reducible apply Has.set) | ((with_reducible apply Has.other); (case hne => (dsimp only; omega))) | (with_reducible apply Has.alloc) | (with_reducible apply Has.drew) | (with_reducible apply Has.drewN))) hb2; have iC' : Has w2 (g) 32 _ := Has.call (by repeat (first | (with_reducible assumption) | (with_reducible apply Has.set) | ((with_reducible apply Has.other); (case hne => (dsimp only; omega))) | (with_reducible apply Has.alloc) | (with_reducible apply Has.drew) | (with_reducible apply Has.drewN))) hb2; have j7' : Has w2 (B7) 2 _ := Has.call (by repeat (first | (with_reducible assumption) | (with_reducible apply Has.set) | ((with_reducible apply Has.other); (case hne => (dsimp only; omega))) | (with_reducible apply Has.alloc) | (with_reducible apply Has.drew) | (with_reducible apply Has.drewN))) hb2; clear hB hb2; have hB := hB'; clear hB'; (try clear fi0); (try clear zi0); (try clear ci0); clear i0; have i0 := i0'; clear i0'; have ci0 := i0.1; have fi0 := i0.2.1; have zi0 := i0.2.2; (try clear fi1); (try clear zi1); (try clear ci1); clear i1; have i1 := i1'; clear i1'; have ci1 := i1.1; have fi1 := i1.2.1; have zi1 := i1.2.2; (try clear fi2); (try clear zi2); (try clear ci2); clear i2; have i2 := i2'; clear i2'; have ci2 := i2.1; have fi2 := i2.2.1; have zi2 := i2.2.2; (try clear fiC); (try clear ziC); (try clear ciC); clear iC; have iC := iC'; clear iC'; have ciC := iC.1; have fiC := iC.2.1; have ziC := iC.2.2; (try clear fj7); (try clear zj7); (try clear cj7); clear j7; have j7 := j7'; clear j7'; have cj7 := j7.1; have fj7 := j7.2.1; have zj7 := j7.2.2) | (refine load_int rfl _ rfl _ _ rfl (by repeat (first | (with_reducible assumption) | (with_reducible apply Has.set) | ((with_reducible apply Has.other); (case hne => (dsimp only; omega))) | (with_reducible apply Has.alloc) | (with_reducible apply Has.drew) | (with_reducible apply Has.drewN))) (by omega) ?_))
        have c0 : w2.cell? ⟨B7, 0, none⟩ = some (.int .i64 x) := two_x j7
        have c1 : w2.cell? ⟨B7, 1, none⟩ = some (.int .i64 y) := two_y j7
        go_region_held3 (fun w' => w'.cell? ⟨B7, 0, none⟩ = some (.int .i64 x) ∧ w'.cell? ⟨B7, 1, none⟩ = some (.int .i64 y)) (first
          | exact keepH j7
          | exact keepH (Has.drew j7)
          | exact keepH (by repeat (first | (with_reducible assumption) | (with_reducible apply Has.set) | ((with_reducible apply Has.other); (case hne => (dsimp only; omega))) | (with_reducible apply Has.alloc) | (with_reducible apply Has.drew) | (with_reducible apply Has.drewN)))) (fail)
        all_goals
          go_wp2
          go_roundw
          case rel => exact ⟨k + 1, by omega, by go_num, by rw [HT.out], (by repeat (first | (with_reducible exact Below.refl _ _) | (with_reducible assumption) | (with_reducible refine below_go ?_ (by with_reducible assumption)) | (with_reducible refine below_new ?_ _) | ((with_reducible refine below_put ?_ ?_ _); rotate_left; (dsimp only; omega)) | (with_reducible refine Below.drew ?_) | (with_reducible refine below_dn ?_ _))), (by repeat (first | (with_reducible assumption) | (with_reducible apply Has.set) | ((with_reducible apply Has.other); (case hne => (dsimp only; omega))) | (with_reducible apply Has.alloc) | (with_reducible apply Has.drew) | (with_reducible apply Has.drewN))), (by repeat (first | (with_reducible assumption) | (with_reducible apply Has.set) | ((with_reducible apply Has.other); (case hne => (dsimp only; omega))) | (with_reducible apply Has.alloc) | (with_reducible apply Has.drew) | (with_reducible apply Has.drewN))), Has.congr (Has.set (Has.set i2)) (fun o ho => by
            obtain ⟨e1, e2⟩ := hxy0.out
            rw [HP.out]
            rcases (by omega : o = 0 ∨ o = 1) with rfl | rfl
            · simp [plC]; omega
            · simp [plC]; omega), (by repeat (first | (with_reducible assumption) | (with_reducible apply Has.set) | ((with_reducible apply Has.other); (case hne => (dsimp only; omega))) | (with_reducible apply Has.alloc) | (with_reducible apply Has.drew) | (with_reducible apply Has.drewN)))⟩
          case measure => simp [intOf]; omega
      · have HT := hide (show hiT b (k + 1) = hiT b k from if_neg hc)
        have HP := hide (show hiP b (k + 1) = hiP b k from if_neg hc)
        go_wp2_with (first | (go_at_call 93; (with_reducible refine (at_xy _ _ _ _ hx0 hx3 hy0 hy3 hxy _).mono ?_); rintro e w2 ⟨rfl, hb2⟩; have hB' : Below w.heap.size w w2 := below_go (by repeat (first | (with_reducible exact Below.refl _ _) | (with_reducible assumption) | (with_reducible refine below_go ?_ (by with_reducible assumption)) | (with_reducible refine below_new ?_ _) | ((with_reducible refine below_put ?_ ?_ _); rotate_left; (dsimp only; omega)) | (with_reducible refine Below.drew ?_) | (with_reducible refine below_dn ?_ _))) hb2; have i0' : Has w2 (w.heap.size) 16 _ := Has.call (by repeat (first | (with_reducible assumption) | (with_reducible apply Has.set) | ((with_reducible apply Has.other); (case hne => (dsimp only; omega))) | (with_reducible apply Has.alloc) | (with_reducible apply Has.drew) | (with_reducible apply Has.drewN))) hb2; have i1' : Has w2 (w.heap.size + 1) 2 _ := Has.call (by repeat (first | (with_reducible assumption) | (with_reducible apply Has.set) | ((with_reducible apply Has.other); (case hne => (dsimp only; omega))) | (with_reducible apply Has.alloc) | (with_reducible apply Has.drew) | (with_reducible apply Has.drewN))) hb2; have i2' : Has w2 (w.heap.size + 1 + 1) 2 _ := Has.call (by repeat (first | (with_reducible assumption) | (with_reducible apply Has.set) | ((with_reducible apply Has.other); (case hne => (dsimp only; omega))) | (with_reducible apply Has.alloc) | (with_reducible apply Has.drew) | (with_reducible apply Has.drewN))) hb2; have iC' : Has w2 (g) 32 _ := Has.call (by repeat (first | (with_reducible assumption) | (with_reducible apply Has.set) | ((with_reducible apply Has.other); (case hne => (dsimp only; omega))) | (with_reducible apply Has.alloc) | (with_reducible apply Has.drew) | (with_reducible apply Has.drewN))) hb2; clear hB hb2; have hB := hB'; clear hB'; (try clear fi0); (try clear zi0); (try clear ci0); clear i0; have i0 := i0'; clear i0'; have ci0 := i0.1; have fi0 := i0.2.1; have zi0 := i0.2.2; (try clear fi1); (try clear zi1); (try clear ci1); clear i1; have i1 := i1'; clear i1'; have ci1 := i1.1; have fi1 := i1.2.1; have zi1 := i1.2.2; (try clear fi2); (try clear zi2); (try clear ci2); clear i2; have i2 := i2'; clear i2'; have ci2 := i2.1; have fi2 := i2.2.1; have zi2 := i2.2.2; (try clear fiC); (try clear ziC); (try clear ciC); clear iC; have iC := iC'; clear iC'; have ciC := iC.1; have fiC := iC.2.1; have ziC := iC.2.2) | (refine load_int rfl _ rfl _ _ rfl (by repeat (first | (with_reducible assumption) | (with_reducible apply Has.set) | ((with_reducible apply Has.other); (case hne => (dsimp only; omega))) | (with_reducible apply Has.alloc) | (with_reducible apply Has.drew) | (with_reducible apply Has.drewN))) (by omega) ?_))
        go_roundw
        case rel => exact ⟨k + 1, by omega, by go_num, by rw [HT.out], hB, i0, i1, by rw [HP.out]; exact i2, iC⟩
        case measure => simp [intOf]; omega

end Go.Proofs.Ytjnmdhnckmmdnaa
