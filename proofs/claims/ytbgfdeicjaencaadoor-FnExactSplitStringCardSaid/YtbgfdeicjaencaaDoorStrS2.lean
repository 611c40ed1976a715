/-
  Contracts: the laws' comparison, marking and reading of slices of strings: the slices.
-/
import Derived.Test.YtbgfdeicjaencaaDoorStrS
import Derived.Deep.RegionHeld3
namespace Go.Proofs.YtbgfdeicjaencaaDoor
open Go.RowKit

set_option maxRecDepth 100000 in
set_option maxHeartbeats 4000000 in
theorem eqStringS_sl (w : World) (A A' : Option Addr) (B B' n c1 c2 : Nat) (p : Nat → ByteArray) (hn : n ≤ 65536) (hS : Sl w B A n (fun o => .string (p o))) (hS' : Sl w B' A' n (fun o => .string (p o))) :
    Calls Tryd.prog 14 #[.slice A n c1, .slice A' n c2] w fun e w' => e = .returned (.bool true) ∧ Below w.heap.size w w' := by
  rcases Nat.eq_zero_or_pos n with h0 | h0
  · subst h0
    clear hS hS'
    go_enter Tryd.func14, Tryd.ntmps14
    go_wp2
    refine wp_loop_rounds 1 ?_
    rw [rounds_succ]
    go_wp2
    go_ret
    exact ⟨rfl, (by repeat (first | (with_reducible exact Below.refl _ _) | (with_reducible assumption) | (with_reducible refine below_go ?_ (by with_reducible assumption)) | (with_reducible refine below_new ?_ _) | ((with_reducible refine below_put ?_ ?_ _); rotate_left; (dsimp only; omega)) | (with_reducible refine Below.drew ?_) | (with_reducible refine below_dn ?_ _)))⟩
  · obtain ⟨g, rfl, _, hH⟩ := hS h0
    obtain ⟨g', rfl, _, hH'⟩ := hS' h0
    have H1 := hide hH
    have H2 := hide hH'
    clear hH hH' hS hS'
    go_enter Tryd.func14, Tryd.ntmps14
    go_wp2
    go_loopw [5] (fun v wr => ∃ k : Nat, k ≤ n ∧ v = .int .i64 k ∧ Below w.heap.size w wr) (fun i _ => n - (intOf i).toNat)
    case atStart => exact ⟨0, by omega, rfl, (by repeat (first | (with_reducible exact Below.refl _ _) | (with_reducible assumption) | (with_reducible refine below_go ?_ (by with_reducible assumption)) | (with_reducible refine below_new ?_ _) | ((with_reducible refine below_put ?_ ?_ _); rotate_left; (dsimp only; omega)) | (with_reducible refine Below.drew ?_) | (with_reducible refine below_dn ?_ _)))⟩
    case round =>
      obtain ⟨k, hk, rfl, hB⟩ := hrel
      by_cases hlt : k < n
      · have i1 := H1.out.call hB
        have i2 := H2.out.call hB
        have a1 : (0 : Int) ≤ k := by omega
        have a2 : (k : Int) < n := by omega
        have q1 : wr.cell? ⟨g, k, none⟩ = some (.string (p k)) := i1.1 _ hlt
        have q2 : wr.cell? ⟨g', k, none⟩ = some (.string (p k)) := i2.1 _ hlt
        clear i1 i2
        go_wp2_with fail
        go_quiet (fail)
        go_wp2
        go_roundw
        case rel => exact ⟨k + 1, by omega, by go_num, (by repeat (first | (with_reducible exact Below.refl _ _) | (with_reducible assumption) | (with_reducible refine below_go ?_ (by with_reducible assumption)) | (with_reducible refine below_new ?_ _) | ((with_reducible refine below_put ?_ ?_ _); rotate_left; (dsimp only; omega)) | (with_reducible refine Below.drew ?_) | (with_reducible refine below_dn ?_ _)))⟩
        case measure => simp [intOf]; omega
      · obtain rfl : k = n := by omega
        go_wp2
        go_ret
        exact ⟨rfl, hB⟩

def mkF (q : Nat) : Nat → ByteArray := fun o => mkT (q + o)

set_option maxRecDepth 100000 in
set_option maxHeartbeats 4000000 in
theorem heldStringS_any (w : World) (A : Option Addr) (B n cap q : Nat) (hq : 0 < q) (hq2 : q ≤ 10000) (hn : n ≤ 65536) (hS : Sl w B A n (fun o => .string (mkF q o))) :
    Calls Tryd.prog 16 #[.slice A n cap, .int .i64 (q : Int)] w fun e w' => e = .returned (.int .i64 (((q + n : Nat)) : Int)) ∧ Below w.heap.size w w' := by
  rcases Nat.eq_zero_or_pos n with h0 | h0
  · subst h0
    clear hS
    go_enter Tryd.func16, Tryd.ntmps16
    go_wp2
    refine wp_loop_rounds 1 ?_
    rw [rounds_succ]
    go_wp2
    go_ret
    exact ⟨rfl, Below.refl _ _⟩
  · obtain ⟨g, rfl, _, hH⟩ := hS h0
    have H1 := hide hH
    have zi := hH.2.2
    clear hH hS
    go_enter Tryd.func16, Tryd.ntmps16
    go_wp2
    go_loopw [1, 5] (fun u v wr => ∃ k K : Nat, Hid (K = q + k) ∧ k ≤ n ∧ v = .int .i64 k ∧ u = .int .i64 (K : Int) ∧ Below w.heap.size w wr) (fun _ i _ => n - (intOf i).toNat)
    case atStart => exact ⟨0, q, rfl, by omega, rfl, rfl, (by repeat (first | (with_reducible exact Below.refl _ _) | (with_reducible assumption) | (with_reducible refine below_go ?_ (by with_reducible assumption)) | (with_reducible refine below_new ?_ _) | ((with_reducible refine below_put ?_ ?_ _); rotate_left; (dsimp only; omega)) | (with_reducible refine Below.drew ?_) | (with_reducible refine below_dn ?_ _)))⟩
    case round =>
      obtain ⟨k, K, HK, hk, rfl, rfl, hB⟩ := hrel
      by_cases hlt : k < n
      · have a1 : (0 : Int) ≤ k := by omega
        have a2 : (k : Int) < n := by omega
        have i1 := H1.out.call hB
        have q1 : wr.cell? ⟨g, k, none⟩ = some (.string (mkT K)) := by rw [HK.out]; exact i1.1 _ hlt
        have q3 : wr.drew.cell? ⟨g, k, none⟩ = some (.string (mkT K)) := by rw [HK.out]; exact (Has.drew i1).1 _ hlt
        have b1 : (K : Int) ≤ 1000000 := by have := HK.out; omega
        have HM := hide (fun w => markText_any K (by have := HK.out; omega) (by have := HK.out; omega) w)
        have HT : Hid (mkF q k = mkT K) := hide (by rw [HK.out]; rfl)
        generalize mkT K = M at *
        go_wp2_with fail
        go_region_held3 (fun w' => w'.cell? ⟨g, k, none⟩ = some (.string M)) (first | exact (i1.1 _ hlt).trans (congrArg (fun s => some (Value.string s)) HT.out) | exact ((Has.drew i1).1 _ hlt).trans (congrArg (fun s => some (Value.string s)) HT.out) | assumption)
          (first | (go_at_call 41; (with_reducible refine (HM.out _).mono ?_); rintro e w2 ⟨rfl, hb2⟩; have i2 := Has.call (Has.drew i1) hb2; clear i1; have i1 := i2; clear i2; have hB2 := below_go (Below.drew hB) hb2; clear hB; have hB := hB2; clear hB2) | fail)
        all_goals
          go_wp2
          go_roundw
          case rel => exact ⟨k + 1, K + 1, hide (by have := HK.out; omega), by omega, by go_num, by go_num, (by repeat (first | (with_reducible exact Below.refl _ _) | (with_reducible assumption) | (with_reducible refine below_go ?_ (by with_reducible assumption)) | (with_reducible refine below_new ?_ _) | ((with_reducible refine below_put ?_ ?_ _); rotate_left; (dsimp only; omega)) | (with_reducible refine Below.drew ?_) | (with_reducible refine below_dn ?_ _)))⟩
          case measure => simp [intOf]; omega
      · obtain rfl : k = n := by omega
        go_wp2
        go_ret
        exact ⟨ret_int (congrArg Int.ofNat HK.out), hB⟩

set_option maxRecDepth 100000 in
set_option maxHeartbeats 4000000 in
theorem markStringS_any (w : World) (A : Option Addr) (B n cap q : Nat) (c : Nat → Value) (hq : 0 < q) (hq2 : q ≤ 10000) (hn : n ≤ 65536) (hBw : B ≤ w.heap.size) (hS : Sl w B A n c) :
    Calls Tryd.prog 15 #[.slice A n cap, .int .i64 (q : Int)] w fun e w' => e = .returned (.int .i64 ((q + n : Nat) : Int)) ∧ Below B w w' ∧ Sl w' B A n (fun o => .string (mkF q o)) := by
  rcases Nat.eq_zero_or_pos n with h0 | h0
  · subst h0
    clear hS
    go_enter Tryd.func15, Tryd.ntmps15
    go_wp2
    refine wp_loop_rounds 1 ?_
    rw [rounds_succ]
    go_wp2
    go_ret
    exact ⟨rfl, Below.refl _ _, sl_zero _ _ _ _⟩
  · obtain ⟨g, rfl, hg, hH⟩ := hS h0
    clear hS
    go_enter Tryd.func15, Tryd.ntmps15
    go_wp2
    go_loopw [1, 5] (fun u v wr => ∃ k K : Nat, Hid (K = q + k) ∧ k ≤ n ∧ v = .int .i64 k ∧ u = .int .i64 (K : Int) ∧ Below B w wr ∧ Has wr g n (fun o => if o < k then .string (mkF q o) else c o)) (fun _ i _ => n - (intOf i).toNat)
    case atStart => exact ⟨0, q, rfl, by omega, rfl, rfl, Below.refl _ _, hH.congr fun o _ => by rw [if_neg (by omega)]⟩
    case round =>
      clear hH
      obtain ⟨k, K, HK, hk, rfl, rfl, hB, hH⟩ := hrel
      by_cases hlt : k < n
      · have a1 : (0 : Int) ≤ k := by omega
        have a2 : (k : Int) < n := by omega
        have HM := hide (fun w => markText_any K (by have := HK.out; omega) (by have := HK.out; omega) w)
        have HT : Hid (mkF q k = mkT K) := hide (by rw [HK.out]; rfl)
        generalize mkT K = M at *
        have b1 : (K : Int) ≤ 1000000 := by have := HK.out; omega
        have hsz := hB.size
        go_wp2_with (first | (go_at_call 41; (with_reducible refine (HM.out _).mono ?_); rintro e w2 ⟨rfl, hb2⟩; have hH2 := Has.call hH hb2; clear hH; have hH := hH2; clear hH2; have hB2 := hB.trans (hb2.mono (Nat.le_trans hBw hsz)); clear hB; have hB := hB2; clear hB2) | ((refine store_strS rfl _ _ rfl _ _ _ rfl rfl hH hlt ?_); intro w3 ho3 hn3))
        go_roundw
        case rel => exact ⟨k + 1, K + 1, hide (by have := HK.out; omega), by omega, by go_num, by go_num, (hB.trans ⟨ho3.os, ho3.tape, ho3.output, Nat.le_of_eq ho3.size.symm, fun i hi => ho3.block i (by omega)⟩), hn3.congr fun o _ => by
          by_cases e : o = k
          · subst e; rw [if_pos rfl, if_pos (by omega), HT.out]
          · rw [if_neg e]
            by_cases e2 : o < k
            · rw [if_pos e2, if_pos (by omega)]
            · rw [if_neg e2, if_neg (by omega)]⟩
        case measure => simp [intOf]; omega
      · obtain rfl : k = n := by omega
        go_wp2
        go_ret
        exact ⟨ret_int (congrArg Int.ofNat HK.out), hB, fun _ => ⟨g, rfl, hg, hH.congr fun o ho => by rw [if_pos ho]⟩⟩

theorem markStringS_one (w : World) (A : Option Addr) (B n cap : Nat) (c : Nat → Value) (hn : n ≤ 65536) (hBw : B ≤ w.heap.size) (hS : Sl w B A n c) :
    Calls Tryd.prog 15 #[.slice A n cap, .int .i64 1] w fun e w' => e = .returned (.int .i64 (1 + (n : Int))) ∧ Below B w w' ∧ Sl w' B A n (fun o => .string (mkF 1 o)) :=
  (markStringS_any w A B n cap 1 c (by omega) (by omega) hn hBw hS).mono fun e w' ⟨he, hb, hM⟩ => ⟨by rw [he]; congr 2, hb, hM⟩
theorem heldStringS_one (w : World) (A : Option Addr) (B n cap : Nat) (hn : n ≤ 65536) (hS : Sl w B A n (fun o => .string (mkF 1 o))) :
    Calls Tryd.prog 16 #[.slice A n cap, .int .i64 1] w fun e w' => e = .returned (.int .i64 (1 + (n : Int))) ∧ Below w.heap.size w w' :=
  (heldStringS_any w A B n cap 1 (by omega) (by omega) hn hS).mono fun e w' ⟨he, hb⟩ => ⟨by rw [he]; congr 2, hb⟩

end Go.Proofs.YtbgfdeicjaencaaDoor
