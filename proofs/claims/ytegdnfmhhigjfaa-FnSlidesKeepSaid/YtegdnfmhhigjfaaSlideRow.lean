/-
  Contract: the program's slide of a row.
-/
import Derived.Test.YtegdnfmhhigjfaaQBoard1
import Derived.Test.YtegdnfmhhigjfaaQTiles
import Derived.Deep.RegionWith
import Derived.IntWalk
namespace Go.Proofs.Ytegdnfmhhigjfaa
open Go.RowKit

/-- The loop's head behind k tiles. -/
def SlS (w wr : World) (A : Option Addr) (n : Nat) (f : Nat → Int) (s : SR) : Prop :=
  Below w.heap.size w wr ∧ Has wr (w.heap.size + 1) 4 (fun _ => .int .i64 0) ∧ Has wr (w.heap.size + 1 + 1) 4 (fun _ => .bool false) ∧ Has wr (w.heap.size + 1 + 1 + 1) 4 (fun o => .int .i64 (s.out o)) ∧ Has wr (w.heap.size + 1 + 1 + 1 + 1) 4 (fun o => .bool (s.mg o)) ∧
    Sl wr (w.heap.size + 1 + 1 + 1 + 1 + 1) A n (fun i => .int .i64 (f i))

set_option maxHeartbeats 4000000 in
set_option maxRecDepth 100000 in
theorem slideRow_any (r : Nat → Int) (hr : ∀ i, i < 4 → 0 ≤ r i ∧ r i ≤ 17) (w : World) : Calls Try.prog 116 #[.agg #[.int .i64 (r 0), .int .i64 (r 1), .int .i64 (r 2), .int .i64 (r 3)]] w fun e w' => e = .returned (.tuple #[.agg #[.int .i64 ((SR.slid r).out 0), .int .i64 ((SR.slid r).out 1), .int .i64 ((SR.slid r).out 2), .int .i64 ((SR.slid r).out 3)], .int .i64 (SR.slid r).score, .agg #[.bool ((SR.slid r).mg 0), .bool ((SR.slid r).mg 1), .bool ((SR.slid r).mg 2), .bool ((SR.slid r).mg 3)]]) ∧ Below w.heap.size w w' := by
  have hl := tilesL_len r
  have hp := hide (tilesL_pos r hr)
  rw [← SR.foldl_tiles r]
  have ht := tiles_any r
  generalize tilesL r = l at hl hp ht ⊢
  have HT := hide ht
  obtain ⟨f, hf⟩ : ∃ f : Nat → Int, Hid (∀ i, f i = l.getD i 0) := ⟨_, hide fun _ => rfl⟩
  clear ht hr
  go_enter Try.func116, Try.ntmps116
  go_wp2_with fail
  generalize hW : ((((w.alloc _).alloc _).alloc _).alloc _).alloc _ = w1
  have hB : Below w.heap.size w w1 := by (rw [← hW]; exact (by repeat (first | (with_reducible exact Below.refl _ _) | (with_reducible assumption) | (with_reducible refine below_go ?_ (by with_reducible assumption)) | (with_reducible refine below_new ?_ _) | ((with_reducible refine below_put ?_ ?_ _); rotate_left; (dsimp only; omega)) | (with_reducible refine Below.drew ?_) | (with_reducible refine below_dn ?_ _))))
  have hsz : Hid (w1.heap.size = w.heap.size + 1 + 1 + 1 + 1 + 1) := hide (by rw [← hW]; simp)
  have i1 : Has w1 (w.heap.size + 1) 4 (fun _ => .int .i64 0) := by (rw [← hW]; repeat (first | (refine Has.new ?_ rfl; simp; done) | refine Has.alloc ?_ _))
  have ci1 := i1.1; have fi1 := i1.2.1; have zi1 := i1.2.2
  have i2 : Has w1 (w.heap.size + 1 + 1) 4 (fun _ => .bool false) := by (rw [← hW]; repeat (first | (refine Has.new ?_ rfl; simp; done) | refine Has.alloc ?_ _))
  have ci2 := i2.1; have fi2 := i2.2.1; have zi2 := i2.2.2
  have i3 : Has w1 (w.heap.size + 1 + 1 + 1) 4 (fun _ => .int .i64 0) := by (rw [← hW]; repeat (first | (refine Has.new ?_ rfl; simp; done) | refine Has.alloc ?_ _))
  have ci3 := i3.1; have fi3 := i3.2.1; have zi3 := i3.2.2
  have i4 : Has w1 (w.heap.size + 1 + 1 + 1 + 1) 4 (fun _ => .bool false) := by (rw [← hW]; repeat (first | (refine Has.new ?_ rfl; simp; done) | refine Has.alloc ?_ _))
  have ci4 := i4.1; have fi4 := i4.2.1; have zi4 := i4.2.2
  clear hW
  refine (HT.out w1).mono ?_
  rintro e w2 ⟨A, cap, rfl, hS, hb2⟩
  have hS2 := hS.mono (Nat.le_of_eq hsz.out.symm)
  have S0 : SlS w w2 A l.length f SR.zero := ⟨below_go hB hb2, i1.call hb2, i2.call hb2, i3.call hb2, i4.call hb2, hS2.congr fun o _ => by rw [hf.out o]⟩
  clear HT hB hsz i1 i2 i3 i4 hS hS2 hb2
  go_wp2_with fail
  go_loopw [7, 8, 16] (fun v7 v8 v16 wr => ∃ (k : Nat) (s : SR), k ≤ l.length ∧ Hid (s = SR.tiles l k) ∧ v16 = .int .i64 k ∧ v8 = .int .i64 s.n ∧ v7 = .int .i64 s.score ∧ SlS w wr A l.length f s) (fun _ _ i _ => l.length - (intOf i).toNat)
  case atStart => exact ⟨0, SR.zero, by omega, hide rfl, rfl, rfl, rfl, S0⟩
  case round =>
    clear S0
    obtain ⟨k, s, hk, hs, rfl, rfl, rfl, hB, i1, i2, i3, i4, hS⟩ := hrel
    have OK := hide (SR.ok_tiles hp.out k hk)
    rw [← hs.out] at OK
    have ci1 := i1.1; have fi1 := i1.2.1; have zi1 := i1.2.2
    have ci2 := i2.1; have fi2 := i2.2.1; have zi2 := i2.2.2
    have ci3 := i3.1; have fi3 := i3.2.1; have zi3 := i3.2.2
    have ci4 := i4.1; have fi4 := i4.2.1; have zi4 := i4.2.2
    by_cases h4 : k = l.length
    · subst h4
      have e : s = l.foldl SR.step SR.zero := by rw [hs.out]; unfold SR.tiles; rw [List.take_length]
      clear hs OK
      subst e
      go_wp2_with fail
      go_region
      go_wp2
      generalize hW : World.drew _ = w3
      have hB3 : Below w.heap.size w w3 := by (rw [← hW]; exact (by repeat (first | (with_reducible exact Below.refl _ _) | (with_reducible assumption) | (with_reducible refine below_go ?_ (by with_reducible assumption)) | (with_reducible refine below_new ?_ _) | ((with_reducible refine below_put ?_ ?_ _); rotate_left; (dsimp only; omega)) | (with_reducible refine Below.drew ?_) | (with_reducible refine below_dn ?_ _))))
      have j1 := Has.at hW (Has.drew (Has.other (Has.other (Has.other (Has.other (Has.set (Has.set (Has.set (Has.set i1)))) (by dsimp only; omega)) (by dsimp only; omega)) (by dsimp only; omega)) (by dsimp only; omega)))
      have j2 := Has.at hW (Has.drew (Has.set (Has.set (Has.set (Has.set (Has.other (Has.other (Has.other (Has.other i2 (by dsimp only; omega)) (by dsimp only; omega)) (by dsimp only; omega)) (by dsimp only; omega)))))))
      exact bodyPost_ret (results_ctc rfl rfl rfl (loadVar_A4 j1 (by omega)) (loadVar_A4b j2 (by omega))) rfl ⟨rfl, hB3⟩
    · have hlt : k < l.length := by omega
      obtain ⟨g, rfl, hg, j0⟩ := hS (by omega)
      have cj0 := j0.1; have fj0 := j0.2.1; have zj0 := j0.2.2
      clear hS h4
      have ht := hp.out (f k) (by rw [hf.out]; simp [hlt])
      obtain ⟨ht1, ht2⟩ := ht
      have hn := OK.out.n; have hlo := OK.out.lo; have hhi := OK.out.hi
      obtain ⟨out, mg, n, sc⟩ := s
      simp only at hn hlo hhi i3 ci3 fi3 zi3 i4 ci4 fi4 zi4 ⊢
      have hn3 : (n : Int) ≤ 3 := by omega
      have hn0 : (0 : Int) ≤ n := by omega
      rcases Nat.eq_zero_or_pos n with hm | hm
      · subst hm
        have hst : Hid (SR.step ⟨out, mg, 0, sc⟩ (f k) = SR.pushed ⟨out, mg, 0, sc⟩ (f k)) := hide (by simp [SR.step, SR.mer])
        go_wp2_with (first | (refine store_int rfl _ _ rfl _ _ _ rfl rfl (by repeat (first | (with_reducible assumption) | (with_reducible apply Has.set) | ((with_reducible apply Has.other); (case hne => (dsimp only; omega))) | (with_reducible apply Has.alloc) | (with_reducible apply Has.drew) | (with_reducible apply Has.drewN))) (by omega) ?_; intro w3 ho3 hn3; have hB' : Below w.heap.size w w3 := below_only (by repeat (first | (with_reducible exact Below.refl _ _) | (with_reducible assumption) | (with_reducible refine below_go ?_ (by with_reducible assumption)) | (with_reducible refine below_new ?_ _) | ((with_reducible refine below_put ?_ ?_ _); rotate_left; (dsimp only; omega)) | (with_reducible refine Below.drew ?_) | (with_reducible refine below_dn ?_ _))) ho3 (by omega); have i1' : Has w3 (w.heap.size + 1) 4 _ := (by first | (with_reducible exact hn3) | exact Has.only (by repeat (first | (with_reducible assumption) | (with_reducible apply Has.set) | ((with_reducible apply Has.other); (case hne => (dsimp only; omega))) | (with_reducible apply Has.alloc) | (with_reducible apply Has.drew) | (with_reducible apply Has.drewN))) ho3 (by omega)); have i2' : Has w3 (w.heap.size + 1 + 1) 4 _ := (by first | (with_reducible exact hn3) | exact Has.only (by repeat (first | (with_reducible assumption) | (with_reducible apply Has.set) | ((with_reducible apply Has.other); (case hne => (dsimp only; omega))) | (with_reducible apply Has.alloc) | (with_reducible apply Has.drew) | (with_reducible apply Has.drewN))) ho3 (by omega)); have i3' : Has w3 (w.heap.size + 1 + 1 + 1) 4 _ := (by first | (with_reducible exact hn3) | exact Has.only (by repeat (first | (with_reducible assumption) | (with_reducible apply Has.set) | ((with_reducible apply Has.other); (case hne => (dsimp only; omega))) | (with_reducible apply Has.alloc) | (with_reducible apply Has.drew) | (with_reducible apply Has.drewN))) ho3 (by omega)); have i4' : Has w3 (w.heap.size + 1 + 1 + 1 + 1) 4 _ := (by first | (with_reducible exact hn3) | exact Has.only (by repeat (first | (with_reducible assumption) | (with_reducible apply Has.set) | ((with_reducible apply Has.other); (case hne => (dsimp only; omega))) | (with_reducible apply Has.alloc) | (with_reducible apply Has.drew) | (with_reducible apply Has.drewN))) ho3 (by omega)); have j0' : Has w3 (g) l.length _ := (by first | (with_reducible exact hn3) | exact Has.only (by repeat (first | (with_reducible assumption) | (with_reducible apply Has.set) | ((with_reducible apply Has.other); (case hne => (dsimp only; omega))) | (with_reducible apply Has.alloc) | (with_reducible apply Has.drew) | (with_reducible apply Has.drewN))) ho3 (by omega)); clear ho3 hn3; clear hB; have hB := hB'; clear hB'; (try clear fi1); (try clear zi1); (try clear ci1); clear i1; have i1 := i1'; clear i1'; have ci1 := i1.1; have fi1 := i1.2.1; have zi1 := i1.2.2; (try clear fi2); (try clear zi2); (try clear ci2); clear i2; have i2 := i2'; clear i2'; have ci2 := i2.1; have fi2 := i2.2.1; have zi2 := i2.2.2; (try clear fi3); (try clear zi3); (try clear ci3); clear i3; have i3 := i3'; clear i3'; have ci3 := i3.1; have fi3 := i3.2.1; have zi3 := i3.2.2; (try clear fi4); (try clear zi4); (try clear ci4); clear i4; have i4 := i4'; clear i4'; have ci4 := i4.1; have fi4 := i4.2.1; have zi4 := i4.2.2; (try clear fj0); (try clear zj0); (try clear cj0); clear j0; have j0 := j0'; clear j0'; have cj0 := j0.1; have fj0 := j0.2.1; have zj0 := j0.2.2))
        go_roundw
        case rel => exact ⟨k + 1, SR.pushed ⟨out, mg, 0, sc⟩ (f k), by omega, hide (by rw [SR.tiles_succ hlt, ← hs.out, ← hf.out]; exact hst.out.symm), by go_num, by go_num, rfl, hB, i1, i2, i3.congr fun o _ => ite_int _ _ _, i4, fun _ => ⟨g, rfl, hg, j0⟩⟩
        case measure => simp [intOf]; omega
      · obtain ⟨m, rfl⟩ : ∃ m, n = m + 1 := ⟨n - 1, by omega⟩
        have hm4 : m < 4 := by omega
        by_cases he : out m = f k
        · have he' : (out m == f k) = true := by simpa using he
          have HE := hide he
          clear he
          by_cases h17 : f k = 17
          · have hst : Hid (SR.step ⟨out, mg, m + 1, sc⟩ (f k) = SR.pushed ⟨out, mg, m + 1, sc⟩ (f k)) := hide (by simp [SR.step, SR.mer, h17])
            have h17' : ¬ f k < 17 := by omega
            clear h17
            go_wp2_with (first | (refine store_int rfl _ _ rfl _ _ _ rfl rfl (by repeat (first | (with_reducible assumption) | (with_reducible apply Has.set) | ((with_reducible apply Has.other); (case hne => (dsimp only; omega))) | (with_reducible apply Has.alloc) | (with_reducible apply Has.drew) | (with_reducible apply Has.drewN))) (by omega) ?_; intro w3 ho3 hn3; have hB' : Below w.heap.size w w3 := below_only (by repeat (first | (with_reducible exact Below.refl _ _) | (with_reducible assumption) | (with_reducible refine below_go ?_ (by with_reducible assumption)) | (with_reducible refine below_new ?_ _) | ((with_reducible refine below_put ?_ ?_ _); rotate_left; (dsimp only; omega)) | (with_reducible refine Below.drew ?_) | (with_reducible refine below_dn ?_ _))) ho3 (by omega); have i1' : Has w3 (w.heap.size + 1) 4 _ := (by first | (with_reducible exact hn3) | exact Has.only (by repeat (first | (with_reducible assumption) | (with_reducible apply Has.set) | ((with_reducible apply Has.other); (case hne => (dsimp only; omega))) | (with_reducible apply Has.alloc) | (with_reducible apply Has.drew) | (with_reducible apply Has.drewN))) ho3 (by omega)); have i2' : Has w3 (w.heap.size + 1 + 1) 4 _ := (by first | (with_reducible exact hn3) | exact Has.only (by repeat (first | (with_reducible assumption) | (with_reducible apply Has.set) | ((with_reducible apply Has.other); (case hne => (dsimp only; omega))) | (with_reducible apply Has.alloc) | (with_reducible apply Has.drew) | (with_reducible apply Has.drewN))) ho3 (by omega)); have i3' : Has w3 (w.heap.size + 1 + 1 + 1) 4 _ := (by first | (with_reducible exact hn3) | exact Has.only (by repeat (first | (with_reducible assumption) | (with_reducible apply Has.set) | ((with_reducible apply Has.other); (case hne => (dsimp only; omega))) | (with_reducible apply Has.alloc) | (with_reducible apply Has.drew) | (with_reducible apply Has.drewN))) ho3 (by omega)); have i4' : Has w3 (w.heap.size + 1 + 1 + 1 + 1) 4 _ := (by first | (with_reducible exact hn3) | exact Has.only (by repeat (first | (with_reducible assumption) | (with_reducible apply Has.set) | ((with_reducible apply Has.other); (case hne => (dsimp only; omega))) | (with_reducible apply Has.alloc) | (with_reducible apply Has.drew) | (with_reducible apply Has.drewN))) ho3 (by omega)); have j0' : Has w3 (g) l.length _ := (by first | (with_reducible exact hn3) | exact Has.only (by repeat (first | (with_reducible assumption) | (with_reducible apply Has.set) | ((with_reducible apply Has.other); (case hne => (dsimp only; omega))) | (with_reducible apply Has.alloc) | (with_reducible apply Has.drew) | (with_reducible apply Has.drewN))) ho3 (by omega)); clear ho3 hn3; clear hB; have hB := hB'; clear hB'; (try clear fi1); (try clear zi1); (try clear ci1); clear i1; have i1 := i1'; clear i1'; have ci1 := i1.1; have fi1 := i1.2.1; have zi1 := i1.2.2; (try clear fi2); (try clear zi2); (try clear ci2); clear i2; have i2 := i2'; clear i2'; have ci2 := i2.1; have fi2 := i2.2.1; have zi2 := i2.2.2; (try clear fi3); (try clear zi3); (try clear ci3); clear i3; have i3 := i3'; clear i3'; have ci3 := i3.1; have fi3 := i3.2.1; have zi3 := i3.2.2; (try clear fi4); (try clear zi4); (try clear ci4); clear i4; have i4 := i4'; clear i4'; have ci4 := i4.1; have fi4 := i4.2.1; have zi4 := i4.2.2; (try clear fj0); (try clear zj0); (try clear cj0); clear j0; have j0 := j0'; clear j0'; have cj0 := j0.1; have fj0 := j0.2.1; have zj0 := j0.2.2))
            go_roundw
            case rel => exact ⟨k + 1, SR.pushed ⟨out, mg, m + 1, sc⟩ (f k), by omega, hide (by rw [SR.tiles_succ hlt, ← hs.out, ← hf.out]; exact hst.out.symm), by go_num, by go_num, rfl, hB, i1, i2, i3.congr fun o _ => ite_int _ _ _, i4, fun _ => ⟨g, rfl, hg, j0⟩⟩
            case measure => simp [intOf]; omega
          · have h17' : f k < 17 := by omega
            clear h17
            cases hq : mg m
            · have hst : Hid (SR.step ⟨out, mg, m + 1, sc⟩ (f k) = SR.merged ⟨out, mg, m + 1, sc⟩ (f k)) := hide (by simp [SR.step, SR.mer, hq, HE.out, h17'])
              have hw := wrt_le (t := f k + 1) (by omega)
              obtain ⟨hw0, hw1⟩ := hw
              have hwz : wz (f k + 1) = wrt (f k + 1) := by unfold wz; rw [if_neg (by omega)]
              have hwo := fun w' => worth_any (f k + 1) (by omega) (by omega) w'
              rw [hwz] at hwo
              have HWO := hide hwo
              clear hwo hwz
              go_wp2_with fail
              have m1 : (0 : Int) ≤ m := by omega
              have m2 : (m : Int) < 4 := by omega
              have s1 : IntKind.i64.wrap (f k + 1) = f k + 1 := IntWalk.i64_in _ (by omega)
              have s2 : IntKind.i64.wrap (((m + 1 : Nat) : Int) - 1) = (m : Int) := by rw [IntWalk.i64_in _ (by omega)]; omega
              have s4 : IntKind.i64.wrap ((m : Int) + 1 - 1) = (m : Int) := by rw [IntWalk.i64_in _ (by omega)]; omega
              have s5 : IntKind.i64.wrap (m : Int) = (m : Int) := IntWalk.i64_in _ (by omega)
              have s3 : IntKind.i64.wrap (sc + wrt (f k + 1)) = sc + wrt (f k + 1) := IntWalk.i64_in _ (by omega)
              go_region_with (first | (go_at_call 118; (refine (HWO.out _).mono ?_); rintro e w' ⟨rfl, rfl⟩))
              clear s1 s2 s3 s4 s5
              go_wp2
              generalize hW : World.drew _ = w3
              have hB3 : Below w.heap.size w w3 := by (rw [← hW]; exact (by repeat (first | (with_reducible exact Below.refl _ _) | (with_reducible assumption) | (with_reducible refine below_go ?_ (by with_reducible assumption)) | (with_reducible refine below_new ?_ _) | ((with_reducible refine below_put ?_ ?_ _); rotate_left; (dsimp only; omega)) | (with_reducible refine Below.drew ?_) | (with_reducible refine below_dn ?_ _))))
              have q1 := Has.at hW (Has.drew (Has.other (Has.other i1 (by dsimp only; omega)) (by dsimp only; omega)))
              have q2 := Has.at hW (Has.drew (Has.other (Has.other i2 (by dsimp only; omega)) (by dsimp only; omega)))
              have q3 := Has.at hW (Has.drew (Has.other (Has.set i3) (by dsimp only; omega)))
              have q4 := Has.at hW (Has.drew (Has.set (Has.other i4 (by dsimp only; omega))))
              have q0 := Has.at hW (Has.drew (Has.other (Has.other j0 (by dsimp only; omega)) (by dsimp only; omega)))
              clear hW
              go_roundw
              case rel => exact ⟨k + 1, SR.merged ⟨out, mg, m + 1, sc⟩ (f k), by omega, hide (by rw [SR.tiles_succ hlt, ← hs.out, ← hf.out]; exact hst.out.symm), by go_num, by go_num, rfl, hB3, q1, q2, q3.congr fun o _ => ite_int _ _ _, q4.congr fun o _ => ite_bool _ _ _, fun _ => ⟨g, rfl, hg, q0⟩⟩
              case measure => simp [intOf]; omega
            · have hst : Hid (SR.step ⟨out, mg, m + 1, sc⟩ (f k) = SR.pushed ⟨out, mg, m + 1, sc⟩ (f k)) := hide (by simp [SR.step, SR.mer, hq])
              go_wp2_with (first | (refine store_int rfl _ _ rfl _ _ _ rfl rfl (by repeat (first | (with_reducible assumption) | (with_reducible apply Has.set) | ((with_reducible apply Has.other); (case hne => (dsimp only; omega))) | (with_reducible apply Has.alloc) | (with_reducible apply Has.drew) | (with_reducible apply Has.drewN))) (by omega) ?_; intro w3 ho3 hn3; have hB' : Below w.heap.size w w3 := below_only (by repeat (first | (with_reducible exact Below.refl _ _) | (with_reducible assumption) | (with_reducible refine below_go ?_ (by with_reducible assumption)) | (with_reducible refine below_new ?_ _) | ((with_reducible refine below_put ?_ ?_ _); rotate_left; (dsimp only; omega)) | (with_reducible refine Below.drew ?_) | (with_reducible refine below_dn ?_ _))) ho3 (by omega); have i1' : Has w3 (w.heap.size + 1) 4 _ := (by first | (with_reducible exact hn3) | exact Has.only (by repeat (first | (with_reducible assumption) | (with_reducible apply Has.set) | ((with_reducible apply Has.other); (case hne => (dsimp only; omega))) | (with_reducible apply Has.alloc) | (with_reducible apply Has.drew) | (with_reducible apply Has.drewN))) ho3 (by omega)); have i2' : Has w3 (w.heap.size + 1 + 1) 4 _ := (by first | (with_reducible exact hn3) | exact Has.only (by repeat (first | (with_reducible assumption) | (with_reducible apply Has.set) | ((with_reducible apply Has.other); (case hne => (dsimp only; omega))) | (with_reducible apply Has.alloc) | (with_reducible apply Has.drew) | (with_reducible apply Has.drewN))) ho3 (by omega)); have i3' : Has w3 (w.heap.size + 1 + 1 + 1) 4 _ := (by first | (with_reducible exact hn3) | exact Has.only (by repeat (first | (with_reducible assumption) | (with_reducible apply Has.set) | ((with_reducible apply Has.other); (case hne => (dsimp only; omega))) | (with_reducible apply Has.alloc) | (with_reducible apply Has.drew) | (with_reducible apply Has.drewN))) ho3 (by omega)); have i4' : Has w3 (w.heap.size + 1 + 1 + 1 + 1) 4 _ := (by first | (with_reducible exact hn3) | exact Has.only (by repeat (first | (with_reducible assumption) | (with_reducible apply Has.set) | ((with_reducible apply Has.other); (case hne => (dsimp only; omega))) | (with_reducible apply Has.alloc) | (with_reducible apply Has.drew) | (with_reducible apply Has.drewN))) ho3 (by omega)); have j0' : Has w3 (g) l.length _ := (by first | (with_reducible exact hn3) | exact Has.only (by repeat (first | (with_reducible assumption) | (with_reducible apply Has.set) | ((with_reducible apply Has.other); (case hne => (dsimp only; omega))) | (with_reducible apply Has.alloc) | (with_reducible apply Has.drew) | (with_reducible apply Has.drewN))) ho3 (by omega)); clear ho3 hn3; clear hB; have hB := hB'; clear hB'; (try clear fi1); (try clear zi1); (try clear ci1); clear i1; have i1 := i1'; clear i1'; have ci1 := i1.1; have fi1 := i1.2.1; have zi1 := i1.2.2; (try clear fi2); (try clear zi2); (try clear ci2); clear i2; have i2 := i2'; clear i2'; have ci2 := i2.1; have fi2 := i2.2.1; have zi2 := i2.2.2; (try clear fi3); (try clear zi3); (try clear ci3); clear i3; have i3 := i3'; clear i3'; have ci3 := i3.1; have fi3 := i3.2.1; have zi3 := i3.2.2; (try clear fi4); (try clear zi4); (try clear ci4); clear i4; have i4 := i4'; clear i4'; have ci4 := i4.1; have fi4 := i4.2.1; have zi4 := i4.2.2; (try clear fj0); (try clear zj0); (try clear cj0); clear j0; have j0 := j0'; clear j0'; have cj0 := j0.1; have fj0 := j0.2.1; have zj0 := j0.2.2))
              go_roundw
              case rel => exact ⟨k + 1, SR.pushed ⟨out, mg, m + 1, sc⟩ (f k), by omega, hide (by rw [SR.tiles_succ hlt, ← hs.out, ← hf.out]; exact hst.out.symm), by go_num, by go_num, rfl, hB, i1, i2, i3.congr fun o _ => ite_int _ _ _, i4, fun _ => ⟨g, rfl, hg, j0⟩⟩
              case measure => simp [intOf]; omega
        · have hst : Hid (SR.step ⟨out, mg, m + 1, sc⟩ (f k) = SR.pushed ⟨out, mg, m + 1, sc⟩ (f k)) := hide (by simp [SR.step, SR.mer, he])
          have he' : (out m == f k) = false := by simpa using he
          go_wp2_with (first | (refine store_int rfl _ _ rfl _ _ _ rfl rfl (by repeat (first | (with_reducible assumption) | (with_reducible apply Has.set) | ((with_reducible apply Has.other); (case hne => (dsimp only; omega))) | (with_reducible apply Has.alloc) | (with_reducible apply Has.drew) | (with_reducible apply Has.drewN))) (by omega) ?_; intro w3 ho3 hn3; have hB' : Below w.heap.size w w3 := below_only (by repeat (first | (with_reducible exact Below.refl _ _) | (with_reducible assumption) | (with_reducible refine below_go ?_ (by with_reducible assumption)) | (with_reducible refine below_new ?_ _) | ((with_reducible refine below_put ?_ ?_ _); rotate_left; (dsimp only; omega)) | (with_reducible refine Below.drew ?_) | (with_reducible refine below_dn ?_ _))) ho3 (by omega); have i1' : Has w3 (w.heap.size + 1) 4 _ := (by first | (with_reducible exact hn3) | exact Has.only (by repeat (first | (with_reducible assumption) | (with_reducible apply Has.set) | ((with_reducible apply Has.other); (case hne => (dsimp only; omega))) | (with_reducible apply Has.alloc) | (with_reducible apply Has.drew) | (with_reducible apply Has.drewN))) ho3 (by omega)); have i2' : Has w3 (w.heap.size + 1 + 1) 4 _ := (by first | (with_reducible exact hn3) | exact Has.only (by repeat (first | (with_reducible assumption) | (with_reducible apply Has.set) | ((with_reducible apply Has.other); (case hne => (dsimp only; omega))) | (with_reducible apply Has.alloc) | (with_reducible apply Has.drew) | (with_reducible apply Has.drewN))) ho3 (by omega)); have i3' : Has w3 (w.heap.size + 1 + 1 + 1) 4 _ := (by first | (with_reducible exact hn3) | exact Has.only (by repeat (first | (with_reducible assumption) | (with_reducible apply Has.set) | ((with_reducible apply Has.other); (case hne => (dsimp only; omega))) | (with_reducible apply Has.alloc) | (with_reducible apply Has.drew) | (with_reducible apply Has.drewN))) ho3 (by omega)); have i4' : Has w3 (w.heap.size + 1 + 1 + 1 + 1) 4 _ := (by first | (with_reducible exact hn3) | exact Has.only (by repeat (first | (with_reducible assumption) | (with_reducible apply Has.set) | ((with_reducible apply Has.other); (case hne => (dsimp only; omega))) | (with_reducible apply Has.alloc) | (with_reducible apply Has.drew) | (with_reducible apply Has.drewN))) ho3 (by omega)); have j0' : Has w3 (g) l.length _ := (by first | (with_reducible exact hn3) | exact Has.only (by repeat (first | (with_reducible assumption) | (with_reducible apply Has.set) | ((with_reducible apply Has.other); (case hne => (dsimp only; omega))) | (with_reducible apply Has.alloc) | (with_reducible apply Has.drew) | (with_reducible apply Has.drewN))) ho3 (by omega)); clear ho3 hn3; clear hB; have hB := hB'; clear hB'; (try clear fi1); (try clear zi1); (try clear ci1); clear i1; have i1 := i1'; clear i1'; have ci1 := i1.1; have fi1 := i1.2.1; have zi1 := i1.2.2; (try clear fi2); (try clear zi2); (try clear ci2); clear i2; have i2 := i2'; clear i2'; have ci2 := i2.1; have fi2 := i2.2.1; have zi2 := i2.2.2; (try clear fi3); (try clear zi3); (try clear ci3); clear i3; have i3 := i3'; clear i3'; have ci3 := i3.1; have fi3 := i3.2.1; have zi3 := i3.2.2; (try clear fi4); (try clear zi4); (try clear ci4); clear i4; have i4 := i4'; clear i4'; have ci4 := i4.1; have fi4 := i4.2.1; have zi4 := i4.2.2; (try clear fj0); (try clear zj0); (try clear cj0); clear j0; have j0 := j0'; clear j0'; have cj0 := j0.1; have fj0 := j0.2.1; have zj0 := j0.2.2))
          go_roundw
          case rel => exact ⟨k + 1, SR.pushed ⟨out, mg, m + 1, sc⟩ (f k), by omega, hide (by rw [SR.tiles_succ hlt, ← hs.out, ← hf.out]; exact hst.out.symm), by go_num, by go_num, rfl, hB, i1, i2, i3.congr fun o _ => ite_int _ _ _, i4, fun _ => ⟨g, rfl, hg, j0⟩⟩
          case measure => simp [intOf]; omega

end Go.Proofs.Ytegdnfmhhigjfaa
