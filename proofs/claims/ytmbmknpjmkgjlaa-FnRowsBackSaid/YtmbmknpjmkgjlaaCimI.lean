/-
  Contract: CountImages, the program's.
-/
import Derived.Test.YtmbmknpjmkgjlaaCimW
namespace Go.Proofs.Ytmbmknpjmkgjlaa
open Go.RowKit

set_option maxHeartbeats 8000000 in
set_option maxRecDepth 100000 in
theorem cim0 (w : World) : Calls Try.prog 12 #[.int .i64 0] w fun e w' => e = .returned (.tuple #[.int .i64 (cntI (rN 1 1 1) 1 : Nat), .bool true]) ∧ Below w.heap.size w w' := by
  have hin : inB 0 0 6 = true := by decide
  obtain ⟨N, hN⟩ : ∃ N, N = cntI (rN 1 1 1) 1 := ⟨_, rfl⟩
  rw [← hN]
  have HN := hide hN
  clear hN
  go_enter Try.func12, Try.ntmps12
  go_wp2_with (go_at_call 48; (with_reducible refine (in_any _ _ _ _).mono ?_); rintro e w' ⟨rfl, rfl⟩; (try rw [hin]))
  go_loopw [4, 20] (fun v4 v20 wr => ∃ (n c : Nat), n ≤ 1 ∧ c = cntI (rN 1 1 1) n ∧ v20 = .int .i64 n ∧ v4 = .int .i64 c ∧ Below w.heap.size w wr) (fun _ v20 _ => 1 - (intOf v20).toNat)
  case atStart => exact ⟨0, 0, by omega, rfl, rfl, rfl, (by repeat (first | (with_reducible exact Below.refl _ _) | (with_reducible assumption) | (with_reducible refine below_go ?_ (by with_reducible assumption)) | (with_reducible refine below_new ?_ _) | ((with_reducible refine below_put ?_ ?_ _); rotate_left; (dsimp only; omega)) | (with_reducible refine Below.drew ?_) | (with_reducible refine below_dn ?_ _)))⟩
  case round =>
    obtain ⟨n, c, hn, hc, rfl, rfl, hB⟩ := hrel
    have a0 : (0 : Int) ≤ n := by omega
    have hcl : c ≤ n := hc ▸ cntI_le _ n
    have HCC := hide hc
    clear hc
    by_cases hlt : n < 1
    · have a1 : (n : Int) < 1 := by omega
      obtain rfl : n = 0 := by omega
      have k2 : IntKind.i64.wrap 1 = 1 := by kernel_rfl
      go_wp2_with fail
      refine wp_region_noPanic ?_
      refine wp_region_held_drew (S := (fun _ => True)) (by kernel_rfl) ?hS01 (fun hHeld => ?_)
      case hS01 => exact trivial
      have hB' : Below w.heap.size w (World.drew _) := Below.drew hB
      generalize hWW : World.drew _ = wx at *; clear hWW
      clear hB; have hB := hB'; clear hB'
      refine take_d (i := 0) (some 23) (v := ?_) rfl rfl (by kernel_rfl) (by kernel_rfl) (by kernel_rfl) (fun _ _ _ h => h) (Or.inl ⟨by rfl, ?_⟩) (by assumption) ?_
      rotate_left; (intro w hSw; clear hSw; go_simp; try with_reducible rfl)
      all_goals (try simp only [Act.put, List.setIfInBounds_toArray, List.set_cons_zero, List.set_cons_succ])
      refine take_d (i := 1) (some 24) (v := ?_) rfl rfl (by kernel_rfl) (by kernel_rfl) (by kernel_rfl) (fun _ _ _ h => h) (Or.inl ⟨by rfl, ?_⟩) (by assumption) ?_
      rotate_left; (intro w hSw; clear hSw; go_simp; try with_reducible rfl)
      all_goals (try simp only [Act.put, List.setIfInBounds_toArray, List.set_cons_zero, List.set_cons_succ])
      refine take_d (i := 2) (some 25) (v := ?_) rfl rfl (by kernel_rfl) (by kernel_rfl) (by kernel_rfl) (fun _ _ _ h => h) (Or.inl ⟨by rfl, ?_⟩) (by assumption) ?_
      rotate_left; (intro w hSw; clear hSw; go_simp; try with_reducible rfl)
      all_goals (try simp only [Act.put, List.setIfInBounds_toArray, List.set_cons_zero, List.set_cons_succ])
      refine take_d (i := 3) (some 26) (v := ?_) rfl rfl (by kernel_rfl) (by kernel_rfl) (by kernel_rfl) (fun _ _ _ h => h) (Or.inl ⟨by rfl, ?_⟩) (by assumption) ?_
      rotate_left; (intro w hSw; clear hSw; go_simp; try with_reducible rfl)
      all_goals (try simp only [Act.put, List.setIfInBounds_toArray, List.set_cons_zero, List.set_cons_succ])
      refine take_d (i := 4) (some 27) (v := ?_) rfl rfl (by kernel_rfl) (by kernel_rfl) (by kernel_rfl) (fun _ _ _ h => h) (Or.inl ⟨by rfl, ?_⟩) (by assumption) ?_
      rotate_left; (intro w hSw; clear hSw; go_simp; try with_reducible rfl)
      all_goals (try simp only [Act.put, List.setIfInBounds_toArray, List.set_cons_zero, List.set_cons_succ])
      refine take_d (i := 5) (some 28) (v := ?_) rfl rfl (by kernel_rfl) (by kernel_rfl) (by kernel_rfl) (fun _ _ _ h => h) (Or.inl ⟨by rfl, ?_⟩) (by assumption) ?_
      rotate_left; (intro w hSw; clear hSw; go_simp; try with_reducible rfl)
      all_goals (try simp only [Act.put, List.setIfInBounds_toArray, List.set_cons_zero, List.set_cons_succ])
      refine take_d (i := 6) (some 29) (v := ?_) rfl rfl (by kernel_rfl) (by kernel_rfl) (by kernel_rfl) (fun _ _ _ h => h) (Or.inl ⟨by rfl, ?_⟩) (by assumption) ?_
      rotate_left; (intro w hSw; clear hSw; go_simp; try with_reducible rfl)
      all_goals (try simp only [Act.put, List.setIfInBounds_toArray, List.set_cons_zero, List.set_cons_succ])
      refine take_d (i := 7) (some 30) (v := ?_) rfl rfl (by kernel_rfl) (by kernel_rfl) (by kernel_rfl) (fun _ _ _ h => h) (Or.inl ⟨by rfl, ?_⟩) (by assumption) ?_
      rotate_left; (intro w hSw; clear hSw; go_simp; try with_reducible rfl)
      all_goals (try simp only [Act.put, List.setIfInBounds_toArray, List.set_cons_zero, List.set_cons_succ])
      refine take_d (i := 8) (some 31) (v := ?_) rfl rfl (by kernel_rfl) (by kernel_rfl) (by kernel_rfl) (fun _ _ _ h => h) (Or.inl ⟨by rfl, ?_⟩) (by assumption) ?_
      rotate_left; (intro w hSw; clear hSw; go_simp; try with_reducible rfl)
      all_goals (try simp only [Act.put, List.setIfInBounds_toArray, List.set_cons_zero, List.set_cons_succ])
      refine take_d (i := 9) (some 32) (v := ?_) rfl rfl (by kernel_rfl) (by kernel_rfl) (by kernel_rfl) (fun _ _ _ h => h) (Or.inl ⟨by rfl, ?_⟩) (by assumption) ?_
      rotate_left; (intro w hSw; clear hSw; go_simp; try with_reducible rfl)
      all_goals (try simp only [Act.put, List.setIfInBounds_toArray, List.set_cons_zero, List.set_cons_succ])
      refine take_d (i := 10) (some 33) (v := ?_) rfl rfl (by kernel_rfl) (by kernel_rfl) (by kernel_rfl) (fun _ _ _ h => h) (Or.inl ⟨by rfl, ?_⟩) (by assumption) ?_
      rotate_left; (intro w hSw; clear hSw; go_simp; try with_reducible rfl)
      all_goals (try simp only [Act.put, List.setIfInBounds_toArray, List.set_cons_zero, List.set_cons_succ])
      refine take_d (i := 11) (some 34) (v := ?_) rfl rfl (by kernel_rfl) (by kernel_rfl) (by kernel_rfl) (fun _ _ _ h => h) (Or.inl ⟨by rfl, ?_⟩) (by assumption) ?_
      rotate_left; (intro w hSw; clear hSw; go_simp; try with_reducible rfl)
      all_goals (try simp only [Act.put, List.setIfInBounds_toArray, List.set_cons_zero, List.set_cons_succ])
      refine take_d (i := 12) (some 35) (v := ?_) rfl rfl (by kernel_rfl) (by kernel_rfl) (by kernel_rfl) (fun _ _ _ h => h) (Or.inl ⟨by rfl, ?_⟩) (by assumption) ?_
      rotate_left; (intro w hSw; clear hSw; go_simp; try with_reducible rfl)
      all_goals (try simp only [Act.put, List.setIfInBounds_toArray, List.set_cons_zero, List.set_cons_succ])
      refine take_d (i := 13) (some 36) (v := ?_) rfl rfl (by kernel_rfl) (by kernel_rfl) (by kernel_rfl) (fun _ _ _ h => h) (Or.inl ⟨by rfl, ?_⟩) (by assumption) ?_
      rotate_left; (intro w hSw; clear hSw; go_simp; try with_reducible rfl)
      all_goals (try simp only [Act.put, List.setIfInBounds_toArray, List.set_cons_zero, List.set_cons_succ])
      refine take_d (i := 14) (some 37) (v := ?_) rfl rfl (by kernel_rfl) (by kernel_rfl) (by kernel_rfl) (fun _ _ _ h => h) (Or.inl ⟨by rfl, ?_⟩) (by assumption) ?_
      rotate_left; (intro w hSw; clear hSw; go_simp; try with_reducible rfl)
      all_goals (try simp only [Act.put, List.setIfInBounds_toArray, List.set_cons_zero, List.set_cons_succ])
      refine take_d (i := 15) (some 38) (v := ?_) rfl rfl (by kernel_rfl) (by kernel_rfl) (by kernel_rfl) (fun _ _ _ h => h) (Or.inl ⟨by rfl, ?_⟩) (by assumption) ?_
      rotate_left; (intro w hSw; clear hSw; go_simp; try with_reducible rfl)
      all_goals (try simp only [Act.put, List.setIfInBounds_toArray, List.set_cons_zero, List.set_cons_succ])
      refine take_d (i := 16) (some 39) (v := ?_) rfl rfl (by kernel_rfl) (by kernel_rfl) (by kernel_rfl) (fun _ _ _ h => h) (Or.inl ⟨by rfl, ?_⟩) (by assumption) ?_
      rotate_left; (intro w hSw; clear hSw; go_simp; try with_reducible rfl)
      all_goals (try simp only [Act.put, List.setIfInBounds_toArray, List.set_cons_zero, List.set_cons_succ])
      refine take_d (i := 17) (some 40) (v := ?_) rfl rfl (by kernel_rfl) (by kernel_rfl) (by kernel_rfl) (fun _ _ _ h => h) (Or.inl ⟨by rfl, ?_⟩) (by assumption) ?_
      rotate_left; (intro w hSw; clear hSw; go_simp; try with_reducible rfl)
      all_goals (try simp only [Act.put, List.setIfInBounds_toArray, List.set_cons_zero, List.set_cons_succ])
      refine take_d (i := 18) (some 41) (v := ?_) rfl rfl (by kernel_rfl) (by kernel_rfl) (by kernel_rfl) (fun _ _ _ h => h) (Or.inl ⟨by rfl, ?_⟩) (by assumption) ?_
      rotate_left; (intro w hSw; clear hSw; go_simp; try with_reducible rfl)
      all_goals (try simp only [Act.put, List.setIfInBounds_toArray, List.set_cons_zero, List.set_cons_succ])
      refine take_d (i := 19) (some 42) (v := ?_) rfl rfl (by kernel_rfl) (by kernel_rfl) (by kernel_rfl) (fun _ _ _ h => h) (Or.inl ⟨by rfl, ?_⟩) (by assumption) ?_
      rotate_left; (intro w hSw; clear hSw; go_simp; try with_reducible rfl)
      all_goals (try simp only [Act.put, List.setIfInBounds_toArray, List.set_cons_zero, List.set_cons_succ])
      refine take_d (i := 20) (some 43) (v := ?_) rfl rfl (by kernel_rfl) (by kernel_rfl) (by kernel_rfl) (fun _ _ _ h => h) (Or.inl ⟨by rfl, ?_⟩) (by assumption) ?_
      rotate_left; (intro w hSw; clear hSw; go_simp; try with_reducible rfl)
      all_goals (try simp only [Act.put, List.setIfInBounds_toArray, List.set_cons_zero, List.set_cons_succ])
      refine take_d (i := 21) (some 44) (v := ?_) rfl rfl (by kernel_rfl) (by kernel_rfl) (by kernel_rfl) (fun _ _ _ h => h) (Or.inl ⟨by rfl, ?_⟩) (by assumption) ?_
      rotate_left; (intro w hSw; clear hSw; go_simp; try with_reducible rfl)
      all_goals (try simp only [Act.put, List.setIfInBounds_toArray, List.set_cons_zero, List.set_cons_succ])
      refine take_d (i := 22) (some 45) (v := ?_) rfl rfl (by kernel_rfl) (by kernel_rfl) (by kernel_rfl) (fun _ _ _ h => h) (Or.inl ⟨by rfl, ?_⟩) (by assumption) ?_
      rotate_left; (intro w hSw; clear hSw; go_simp; try with_reducible rfl)
      all_goals (try simp only [Act.put, List.setIfInBounds_toArray, List.set_cons_zero, List.set_cons_succ])
      refine wpAnyH_ready (rs := [23]) (by kernel_rfl) (by simp) ?_
      refine AllReadyH.cons (o := _) rfl (fun K hK => ?_) ?_
      ·
        go_simp
        generalize hW : World.alloc _ _ = w2
        have hB' : Below w.heap.size w w2 := by (rw [← hW]; exact below_new hB _)
        have jn := Has.newat (n := 4) hW rfl
        clear hW; have zn := hB.size; clear hB; have hB := hB'; clear hB'
        generalize hS : (World.heap wx).size = Bn at *
        clear hS; generalize hWW : w2 = wx at *; clear hWW
        refine hK.out _ _ ?hS2 (fun hHeld => ?_)
        case hS2 => exact trivial
        clear hK K
        (try simp only [Act.put, List.setIfInBounds_toArray, List.set_cons_zero, List.set_cons_succ])
        refine wpAnyH_ready (rs := [24]) (by kernel_rfl) (by simp) ?_
        refine AllReadyH.cons (o := _) rfl (fun K hK => ?_) ?_
        ·
          rw [if_pos (by rfl)]
          refine wp_store_RwF _ _ rfl _ (rN 1 1 1 0) rfl rfl rfl jn ?_
          intro w3 ho3 hn3
          have hB' : Below w.heap.size w w3 := below_only hB ho3 (by omega)
          clear jn ho3; have jn := hn3; clear hn3; clear hB; have hB := hB'; clear hB'
          generalize hWW : w3 = wx at *; clear hWW
          refine hK.out _ _ ?hS3 (fun hHeld => ?_)
          case hS3 => exact trivial
          clear hK K
          (try simp only [Act.put, List.setIfInBounds_toArray, List.set_cons_zero, List.set_cons_succ])
          refine wpAnyH_done (by kernel_rfl) ?_ _
          refine NoPanic.normal ?_
          have hrn := rN_in (b3 := 1) (b2 := 1) (b := 1) (n := 0) (by decide) (by decide) (by omega)
          have HCS : Hid (cntI (rN 1 1 1) (0 + 1) = cntI (rN 1 1 1) 0 + if 0 < (rbL (rN 1 1 1 0)).length then 1 else 0) := hide rfl
          generalize rN 1 1 1 0 = F at *
          have HRB := hide (rowsBefore_any F hrn)
          generalize (rbL F).length = q at *
          by_cases hq : 0 < q
          · rw [if_pos hq] at HCS
            have hqi : (0 : Int) < q := by omega
            clear hrn
            go_wp2_with (first | (refine load_A4 rfl _ rfl _ _ rfl jn (by omega) ?_) | (go_at_call 45; (with_reducible refine (HRB.out _).mono ?_); rintro e w2 ⟨A, cc, rfl, -, hb2⟩; have hB' := below_go hB hb2))
            go_roundw
            case rel => exact ⟨0 + 1, c + 1, by omega, by have h := HCS.out; have h2 := HCC.out; omega, by go_num, by go_num, hB'⟩
            case measure => (simp [intOf]; try omega)
          · rw [if_neg hq] at HCS
            have hqi : ¬ (0 : Int) < q := by omega
            clear hrn
            go_wp2_with (first | (refine load_A4 rfl _ rfl _ _ rfl jn (by omega) ?_) | (go_at_call 45; (with_reducible refine (HRB.out _).mono ?_); rintro e w2 ⟨A, cc, rfl, -, hb2⟩; have hB' := below_go hB hb2))
            go_roundw
            case rel => exact ⟨0 + 1, c, by omega, by have h := HCS.out; have h2 := HCC.out; omega, by go_num, rfl, hB'⟩
            case measure => (simp [intOf]; try omega)
        exact AllReadyH.nil
      exact AllReadyH.nil
    · obtain rfl : n = 1 := by omega
      have HC : Hid (c = N) := hide (by rw [HCC.out, HN.out])
      go_wp2
      go_ret2
      exact ⟨by rw [← HC.out]; rfl, hB⟩

set_option maxHeartbeats 8000000 in
set_option maxRecDepth 100000 in
theorem cim1 (w : World) : Calls Try.prog 12 #[.int .i64 1] w fun e w' => e = .returned (.tuple #[.int .i64 (cntI (rN 8 4 2) 16 : Nat), .bool true]) ∧ Below w.heap.size w w' := by
  have hin : inB 1 0 6 = true := by decide
  obtain ⟨N, hN⟩ : ∃ N, N = cntI (rN 8 4 2) 16 := ⟨_, rfl⟩
  rw [← hN]
  have HN := hide hN
  clear hN
  go_enter Try.func12, Try.ntmps12
  go_wp2_with (go_at_call 48; (with_reducible refine (in_any _ _ _ _).mono ?_); rintro e w' ⟨rfl, rfl⟩; (try rw [hin]))
  go_loopw [4, 20] (fun v4 v20 wr => ∃ (n c : Nat), n ≤ 16 ∧ c = cntI (rN 8 4 2) n ∧ v20 = .int .i64 n ∧ v4 = .int .i64 c ∧ Below w.heap.size w wr) (fun _ v20 _ => 16 - (intOf v20).toNat)
  case atStart => exact ⟨0, 0, by omega, rfl, rfl, rfl, (by repeat (first | (with_reducible exact Below.refl _ _) | (with_reducible assumption) | (with_reducible refine below_go ?_ (by with_reducible assumption)) | (with_reducible refine below_new ?_ _) | ((with_reducible refine below_put ?_ ?_ _); rotate_left; (dsimp only; omega)) | (with_reducible refine Below.drew ?_) | (with_reducible refine below_dn ?_ _)))⟩
  case round =>
    obtain ⟨n, c, hn, hc, rfl, rfl, hB⟩ := hrel
    have a0 : (0 : Int) ≤ n := by omega
    have hcl : c ≤ n := hc ▸ cntI_le _ n
    have HCC := hide hc
    clear hc
    by_cases hlt : n < 16
    · have a1 : (n : Int) < 16 := by omega
      have k2 : IntKind.i64.wrap 2 = 2 := by kernel_rfl
      have k3 : IntKind.i64.wrap 4 = 4 := by kernel_rfl
      have k4 : IntKind.i64.wrap 8 = 8 := by kernel_rfl
      have k5 : IntKind.i64.wrap 16 = 16 := by kernel_rfl
      have s0 : IntKind.i64.wrap ((n : Int) / 8) = (n : Int) / 8 := IntWalk.i64_in _ (by omega)
      have s1 : IntKind.i64.wrap ((n : Int) / 4) = (n : Int) / 4 := IntWalk.i64_in _ (by omega)
      have s2 : ((n : Int) / 4).tmod 2 = (n : Int) / 4 % 2 := Int.tmod_eq_emod_of_nonneg (by omega)
      have s3 : IntKind.i64.wrap ((n : Int) / 2) = (n : Int) / 2 := IntWalk.i64_in _ (by omega)
      have s4 : ((n : Int) / 2).tmod 2 = (n : Int) / 2 % 2 := Int.tmod_eq_emod_of_nonneg (by omega)
      have s5 : (n : Int).tmod 2 = (n : Int) % 2 := Int.tmod_eq_emod_of_nonneg (by omega)
      go_wp2_with fail
      refine wp_region_noPanic ?_
      refine wp_region_held_drew (S := (fun _ => True)) (by kernel_rfl) ?hS04 (fun hHeld => ?_)
      case hS04 => exact trivial
      have hB' : Below w.heap.size w (World.drew _) := Below.drew hB
      generalize hWW : World.drew _ = wx at *; clear hWW
      clear hB; have hB := hB'; clear hB'
      refine take_d (i := 0) (some 23) (v := ?_) rfl rfl (by kernel_rfl) (by kernel_rfl) (by kernel_rfl) (fun _ _ _ h => h) (Or.inl ⟨by rfl, ?_⟩) (by assumption) ?_
      rotate_left; (intro w hSw; clear hSw; go_simp; try with_reducible rfl)
      all_goals (try simp only [Act.put, List.setIfInBounds_toArray, List.set_cons_zero, List.set_cons_succ])
      refine take_d (i := 1) (some 24) (v := ?_) rfl rfl (by kernel_rfl) (by kernel_rfl) (by kernel_rfl) (fun _ _ _ h => h) (Or.inl ⟨by rfl, ?_⟩) (by assumption) ?_
      rotate_left; (intro w hSw; clear hSw; go_simp; try with_reducible rfl)
      all_goals (try simp only [Act.put, List.setIfInBounds_toArray, List.set_cons_zero, List.set_cons_succ])
      refine take_d (i := 2) (some 25) (v := ?_) rfl rfl (by kernel_rfl) (by kernel_rfl) (by kernel_rfl) (fun _ _ _ h => h) (Or.inl ⟨by rfl, ?_⟩) (by assumption) ?_
      rotate_left; (intro w hSw; clear hSw; go_simp; try with_reducible rfl)
      all_goals (try simp only [Act.put, List.setIfInBounds_toArray, List.set_cons_zero, List.set_cons_succ])
      refine take_d (i := 3) (some 26) (v := ?_) rfl rfl (by kernel_rfl) (by kernel_rfl) (by kernel_rfl) (fun _ _ _ h => h) (Or.inl ⟨by rfl, ?_⟩) (by assumption) ?_
      rotate_left; (intro w hSw; clear hSw; go_simp; try with_reducible rfl)
      all_goals (try simp only [Act.put, List.setIfInBounds_toArray, List.set_cons_zero, List.set_cons_succ])
      refine take_d (i := 4) (some 27) (v := ?_) rfl rfl (by kernel_rfl) (by kernel_rfl) (by kernel_rfl) (fun _ _ _ h => h) (Or.inl ⟨by rfl, ?_⟩) (by assumption) ?_
      rotate_left; (intro w hSw; clear hSw; go_simp; try with_reducible rfl)
      all_goals (try simp only [Act.put, List.setIfInBounds_toArray, List.set_cons_zero, List.set_cons_succ])
      refine take_d (i := 5) (some 28) (v := ?_) rfl rfl (by kernel_rfl) (by kernel_rfl) (by kernel_rfl) (fun _ _ _ h => h) (Or.inl ⟨by rfl, ?_⟩) (by assumption) ?_
      rotate_left; (intro w hSw; clear hSw; go_simp; try with_reducible rfl)
      all_goals (try simp only [Act.put, List.setIfInBounds_toArray, List.set_cons_zero, List.set_cons_succ])
      refine take_d (i := 6) (some 29) (v := ?_) rfl rfl (by kernel_rfl) (by kernel_rfl) (by kernel_rfl) (fun _ _ _ h => h) (Or.inl ⟨by rfl, ?_⟩) (by assumption) ?_
      rotate_left; (intro w hSw; clear hSw; go_simp; try with_reducible rfl)
      all_goals (try simp only [Act.put, List.setIfInBounds_toArray, List.set_cons_zero, List.set_cons_succ])
      refine take_d (i := 7) (some 30) (v := ?_) rfl rfl (by kernel_rfl) (by kernel_rfl) (by kernel_rfl) (fun _ _ _ h => h) (Or.inl ⟨by rfl, ?_⟩) (by assumption) ?_
      rotate_left; (intro w hSw; clear hSw; go_simp; try with_reducible rfl)
      all_goals (try simp only [Act.put, List.setIfInBounds_toArray, List.set_cons_zero, List.set_cons_succ])
      refine take_d (i := 8) (some 31) (v := ?_) rfl rfl (by kernel_rfl) (by kernel_rfl) (by kernel_rfl) (fun _ _ _ h => h) (Or.inl ⟨by rfl, ?_⟩) (by assumption) ?_
      rotate_left; (intro w hSw; clear hSw; go_simp; try with_reducible rfl)
      all_goals (try simp only [Act.put, List.setIfInBounds_toArray, List.set_cons_zero, List.set_cons_succ])
      refine take_d (i := 9) (some 32) (v := ?_) rfl rfl (by kernel_rfl) (by kernel_rfl) (by kernel_rfl) (fun _ _ _ h => h) (Or.inl ⟨by rfl, ?_⟩) (by assumption) ?_
      rotate_left; (intro w hSw; clear hSw; go_simp; try with_reducible rfl)
      all_goals (try simp only [Act.put, List.setIfInBounds_toArray, List.set_cons_zero, List.set_cons_succ])
      refine take_d (i := 10) (some 33) (v := ?_) rfl rfl (by kernel_rfl) (by kernel_rfl) (by kernel_rfl) (fun _ _ _ h => h) (Or.inl ⟨by rfl, ?_⟩) (by assumption) ?_
      rotate_left; (intro w hSw; clear hSw; go_simp; try with_reducible rfl)
      all_goals (try simp only [Act.put, List.setIfInBounds_toArray, List.set_cons_zero, List.set_cons_succ])
      refine take_d (i := 11) (some 34) (v := ?_) rfl rfl (by kernel_rfl) (by kernel_rfl) (by kernel_rfl) (fun _ _ _ h => h) (Or.inl ⟨by rfl, ?_⟩) (by assumption) ?_
      rotate_left; (intro w hSw; clear hSw; go_simp; try with_reducible rfl)
      all_goals (try simp only [Act.put, List.setIfInBounds_toArray, List.set_cons_zero, List.set_cons_succ])
      refine take_d (i := 12) (some 35) (v := ?_) rfl rfl (by kernel_rfl) (by kernel_rfl) (by kernel_rfl) (fun _ _ _ h => h) (Or.inl ⟨by rfl, ?_⟩) (by assumption) ?_
      rotate_left; (intro w hSw; clear hSw; go_simp; try with_reducible rfl)
      all_goals (try simp only [Act.put, List.setIfInBounds_toArray, List.set_cons_zero, List.set_cons_succ])
      refine take_d (i := 13) (some 36) (v := ?_) rfl rfl (by kernel_rfl) (by kernel_rfl) (by kernel_rfl) (fun _ _ _ h => h) (Or.inl ⟨by rfl, ?_⟩) (by assumption) ?_
      rotate_left; (intro w hSw; clear hSw; go_simp; try with_reducible rfl)
      all_goals (try simp only [Act.put, List.setIfInBounds_toArray, List.set_cons_zero, List.set_cons_succ])
      refine take_d (i := 14) (some 37) (v := ?_) rfl rfl (by kernel_rfl) (by kernel_rfl) (by kernel_rfl) (fun _ _ _ h => h) (Or.inl ⟨by rfl, ?_⟩) (by assumption) ?_
      rotate_left; (intro w hSw; clear hSw; go_simp; try with_reducible rfl)
      all_goals (try simp only [Act.put, List.setIfInBounds_toArray, List.set_cons_zero, List.set_cons_succ])
      refine take_d (i := 15) (some 38) (v := ?_) rfl rfl (by kernel_rfl) (by kernel_rfl) (by kernel_rfl) (fun _ _ _ h => h) (Or.inl ⟨by rfl, ?_⟩) (by assumption) ?_
      rotate_left; (intro w hSw; clear hSw; go_simp; try with_reducible rfl)
      all_goals (try simp only [Act.put, List.setIfInBounds_toArray, List.set_cons_zero, List.set_cons_succ])
      refine take_d (i := 16) (some 39) (v := ?_) rfl rfl (by kernel_rfl) (by kernel_rfl) (by kernel_rfl) (fun _ _ _ h => h) (Or.inl ⟨by rfl, ?_⟩) (by assumption) ?_
      rotate_left; (intro w hSw; clear hSw; go_simp; try with_reducible rfl)
      all_goals (try simp only [Act.put, List.setIfInBounds_toArray, List.set_cons_zero, List.set_cons_succ])
      refine take_d (i := 17) (some 40) (v := ?_) rfl rfl (by kernel_rfl) (by kernel_rfl) (by kernel_rfl) (fun _ _ _ h => h) (Or.inl ⟨by rfl, ?_⟩) (by assumption) ?_
      rotate_left; (intro w hSw; clear hSw; go_simp; try with_reducible rfl)
      all_goals (try simp only [Act.put, List.setIfInBounds_toArray, List.set_cons_zero, List.set_cons_succ])
      refine take_d (i := 18) (some 41) (v := ?_) rfl rfl (by kernel_rfl) (by kernel_rfl) (by kernel_rfl) (fun _ _ _ h => h) (Or.inl ⟨by rfl, ?_⟩) (by assumption) ?_
      rotate_left; (intro w hSw; clear hSw; go_simp; try with_reducible rfl)
      all_goals (try simp only [Act.put, List.setIfInBounds_toArray, List.set_cons_zero, List.set_cons_succ])
      refine take_d (i := 19) (some 42) (v := ?_) rfl rfl (by kernel_rfl) (by kernel_rfl) (by kernel_rfl) (fun _ _ _ h => h) (Or.inl ⟨by rfl, ?_⟩) (by assumption) ?_
      rotate_left; (intro w hSw; clear hSw; go_simp; try with_reducible rfl)
      all_goals (try simp only [Act.put, List.setIfInBounds_toArray, List.set_cons_zero, List.set_cons_succ])
      refine take_d (i := 20) (some 43) (v := ?_) rfl rfl (by kernel_rfl) (by kernel_rfl) (by kernel_rfl) (fun _ _ _ h => h) (Or.inl ⟨by rfl, ?_⟩) (by assumption) ?_
      rotate_left; (intro w hSw; clear hSw; go_simp; try with_reducible rfl)
      all_goals (try simp only [Act.put, List.setIfInBounds_toArray, List.set_cons_zero, List.set_cons_succ])
      refine take_d (i := 21) (some 44) (v := ?_) rfl rfl (by kernel_rfl) (by kernel_rfl) (by kernel_rfl) (fun _ _ _ h => h) (Or.inl ⟨by rfl, ?_⟩) (by assumption) ?_
      rotate_left; (intro w hSw; clear hSw; go_simp; try with_reducible rfl)
      all_goals (try simp only [Act.put, List.setIfInBounds_toArray, List.set_cons_zero, List.set_cons_succ])
      refine take_d (i := 22) (some 45) (v := ?_) rfl rfl (by kernel_rfl) (by kernel_rfl) (by kernel_rfl) (fun _ _ _ h => h) (Or.inl ⟨by rfl, ?_⟩) (by assumption) ?_
      rotate_left; (intro w hSw; clear hSw; go_simp; try with_reducible rfl)
      all_goals (try simp only [Act.put, List.setIfInBounds_toArray, List.set_cons_zero, List.set_cons_succ])
      refine wpAnyH_ready (rs := [23]) (by kernel_rfl) (by simp) ?_
      refine AllReadyH.cons (o := _) rfl (fun K hK => ?_) ?_
      ·
        go_simp
        generalize hW : World.alloc _ _ = w2
        have hB' : Below w.heap.size w w2 := by (rw [← hW]; exact below_new hB _)
        have jn := Has.newat (n := 4) hW rfl
        clear hW; have zn := hB.size; clear hB; have hB := hB'; clear hB'
        generalize hS : (World.heap wx).size = Bn at *
        clear hS; generalize hWW : w2 = wx at *; clear hWW
        refine hK.out _ _ ?hS5 (fun hHeld => ?_)
        case hS5 => exact trivial
        clear hK K
        (try simp only [Act.put, List.setIfInBounds_toArray, List.set_cons_zero, List.set_cons_succ])
        refine wpAnyH_ready (rs := [24]) (by kernel_rfl) (by simp) ?_
        refine AllReadyH.cons (o := _) rfl (fun K hK => ?_) ?_
        ·
          rw [if_pos (by rfl)]
          refine wp_store_RwF _ _ rfl _ (rN 8 4 2 n) rfl rfl rfl jn ?_
          intro w3 ho3 hn3
          have hB' : Below w.heap.size w w3 := below_only hB ho3 (by omega)
          clear jn ho3; have jn := hn3; clear hn3; clear hB; have hB := hB'; clear hB'
          generalize hWW : w3 = wx at *; clear hWW
          refine hK.out _ _ ?hS6 (fun hHeld => ?_)
          case hS6 => exact trivial
          clear hK K
          (try simp only [Act.put, List.setIfInBounds_toArray, List.set_cons_zero, List.set_cons_succ])
          refine wpAnyH_done (by kernel_rfl) ?_ _
          refine NoPanic.normal ?_
          have hrn := rN_in (b3 := 8) (b2 := 4) (b := 2) (n := n) (by decide) (by decide) (by omega)
          have HCS : Hid (cntI (rN 8 4 2) (n + 1) = cntI (rN 8 4 2) n + if 0 < (rbL (rN 8 4 2 n)).length then 1 else 0) := hide rfl
          generalize rN 8 4 2 n = F at *
          have HRB := hide (rowsBefore_any F hrn)
          generalize (rbL F).length = q at *
          by_cases hq : 0 < q
          · rw [if_pos hq] at HCS
            have hqi : (0 : Int) < q := by omega
            clear hrn
            go_wp2_with (first | (refine load_A4 rfl _ rfl _ _ rfl jn (by omega) ?_) | (go_at_call 45; (with_reducible refine (HRB.out _).mono ?_); rintro e w2 ⟨A, cc, rfl, -, hb2⟩; have hB' := below_go hB hb2))
            go_roundw
            case rel => exact ⟨n + 1, c + 1, by omega, by have h := HCS.out; have h2 := HCC.out; omega, by go_num, by go_num, hB'⟩
            case measure => (simp [intOf]; try omega)
          · rw [if_neg hq] at HCS
            have hqi : ¬ (0 : Int) < q := by omega
            clear hrn
            go_wp2_with (first | (refine load_A4 rfl _ rfl _ _ rfl jn (by omega) ?_) | (go_at_call 45; (with_reducible refine (HRB.out _).mono ?_); rintro e w2 ⟨A, cc, rfl, -, hb2⟩; have hB' := below_go hB hb2))
            go_roundw
            case rel => exact ⟨n + 1, c, by omega, by have h := HCS.out; have h2 := HCC.out; omega, by go_num, rfl, hB'⟩
            case measure => (simp [intOf]; try omega)
        exact AllReadyH.nil
      exact AllReadyH.nil
    · obtain rfl : n = 16 := by omega
      have HC : Hid (c = N) := hide (by rw [HCC.out, HN.out])
      go_wp2
      go_ret2
      exact ⟨by rw [← HC.out]; rfl, hB⟩

set_option maxHeartbeats 8000000 in
set_option maxRecDepth 100000 in
theorem cim2 (w : World) : Calls Try.prog 12 #[.int .i64 2] w fun e w' => e = .returned (.tuple #[.int .i64 (cntI (rN 27 9 3) 81 : Nat), .bool true]) ∧ Below w.heap.size w w' := by
  have hin : inB 2 0 6 = true := by decide
  obtain ⟨N, hN⟩ : ∃ N, N = cntI (rN 27 9 3) 81 := ⟨_, rfl⟩
  rw [← hN]
  have HN := hide hN
  clear hN
  go_enter Try.func12, Try.ntmps12
  go_wp2_with (go_at_call 48; (with_reducible refine (in_any _ _ _ _).mono ?_); rintro e w' ⟨rfl, rfl⟩; (try rw [hin]))
  go_loopw [4, 20] (fun v4 v20 wr => ∃ (n c : Nat), n ≤ 81 ∧ c = cntI (rN 27 9 3) n ∧ v20 = .int .i64 n ∧ v4 = .int .i64 c ∧ Below w.heap.size w wr) (fun _ v20 _ => 81 - (intOf v20).toNat)
  case atStart => exact ⟨0, 0, by omega, rfl, rfl, rfl, (by repeat (first | (with_reducible exact Below.refl _ _) | (with_reducible assumption) | (with_reducible refine below_go ?_ (by with_reducible assumption)) | (with_reducible refine below_new ?_ _) | ((with_reducible refine below_put ?_ ?_ _); rotate_left; (dsimp only; omega)) | (with_reducible refine Below.drew ?_) | (with_reducible refine below_dn ?_ _)))⟩
  case round =>
    obtain ⟨n, c, hn, hc, rfl, rfl, hB⟩ := hrel
    have a0 : (0 : Int) ≤ n := by omega
    have hcl : c ≤ n := hc ▸ cntI_le _ n
    have HCC := hide hc
    clear hc
    by_cases hlt : n < 81
    · have a1 : (n : Int) < 81 := by omega
      have k2 : IntKind.i64.wrap 3 = 3 := by kernel_rfl
      have k3 : IntKind.i64.wrap 9 = 9 := by kernel_rfl
      have k4 : IntKind.i64.wrap 27 = 27 := by kernel_rfl
      have k5 : IntKind.i64.wrap 81 = 81 := by kernel_rfl
      have s0 : IntKind.i64.wrap ((n : Int) / 27) = (n : Int) / 27 := IntWalk.i64_in _ (by omega)
      have s1 : IntKind.i64.wrap ((n : Int) / 9) = (n : Int) / 9 := IntWalk.i64_in _ (by omega)
      have s2 : ((n : Int) / 9).tmod 3 = (n : Int) / 9 % 3 := Int.tmod_eq_emod_of_nonneg (by omega)
      have s3 : IntKind.i64.wrap ((n : Int) / 3) = (n : Int) / 3 := IntWalk.i64_in _ (by omega)
      have s4 : ((n : Int) / 3).tmod 3 = (n : Int) / 3 % 3 := Int.tmod_eq_emod_of_nonneg (by omega)
      have s5 : (n : Int).tmod 3 = (n : Int) % 3 := Int.tmod_eq_emod_of_nonneg (by omega)
      go_wp2_with fail
      refine wp_region_noPanic ?_
      refine wp_region_held_drew (S := (fun _ => True)) (by kernel_rfl) ?hS07 (fun hHeld => ?_)
      case hS07 => exact trivial
      have hB' : Below w.heap.size w (World.drew _) := Below.drew hB
      generalize hWW : World.drew _ = wx at *; clear hWW
      clear hB; have hB := hB'; clear hB'
      refine take_d (i := 0) (some 23) (v := ?_) rfl rfl (by kernel_rfl) (by kernel_rfl) (by kernel_rfl) (fun _ _ _ h => h) (Or.inl ⟨by rfl, ?_⟩) (by assumption) ?_
      rotate_left; (intro w hSw; clear hSw; go_simp; try with_reducible rfl)
      all_goals (try simp only [Act.put, List.setIfInBounds_toArray, List.set_cons_zero, List.set_cons_succ])
      refine take_d (i := 1) (some 24) (v := ?_) rfl rfl (by kernel_rfl) (by kernel_rfl) (by kernel_rfl) (fun _ _ _ h => h) (Or.inl ⟨by rfl, ?_⟩) (by assumption) ?_
      rotate_left; (intro w hSw; clear hSw; go_simp; try with_reducible rfl)
      all_goals (try simp only [Act.put, List.setIfInBounds_toArray, List.set_cons_zero, List.set_cons_succ])
      refine take_d (i := 2) (some 25) (v := ?_) rfl rfl (by kernel_rfl) (by kernel_rfl) (by kernel_rfl) (fun _ _ _ h => h) (Or.inl ⟨by rfl, ?_⟩) (by assumption) ?_
      rotate_left; (intro w hSw; clear hSw; go_simp; try with_reducible rfl)
      all_goals (try simp only [Act.put, List.setIfInBounds_toArray, List.set_cons_zero, List.set_cons_succ])
      refine take_d (i := 3) (some 26) (v := ?_) rfl rfl (by kernel_rfl) (by kernel_rfl) (by kernel_rfl) (fun _ _ _ h => h) (Or.inl ⟨by rfl, ?_⟩) (by assumption) ?_
      rotate_left; (intro w hSw; clear hSw; go_simp; try with_reducible rfl)
      all_goals (try simp only [Act.put, List.setIfInBounds_toArray, List.set_cons_zero, List.set_cons_succ])
      refine take_d (i := 4) (some 27) (v := ?_) rfl rfl (by kernel_rfl) (by kernel_rfl) (by kernel_rfl) (fun _ _ _ h => h) (Or.inl ⟨by rfl, ?_⟩) (by assumption) ?_
      rotate_left; (intro w hSw; clear hSw; go_simp; try with_reducible rfl)
      all_goals (try simp only [Act.put, List.setIfInBounds_toArray, List.set_cons_zero, List.set_cons_succ])
      refine take_d (i := 5) (some 28) (v := ?_) rfl rfl (by kernel_rfl) (by kernel_rfl) (by kernel_rfl) (fun _ _ _ h => h) (Or.inl ⟨by rfl, ?_⟩) (by assumption) ?_
      rotate_left; (intro w hSw; clear hSw; go_simp; try with_reducible rfl)
      all_goals (try simp only [Act.put, List.setIfInBounds_toArray, List.set_cons_zero, List.set_cons_succ])
      refine take_d (i := 6) (some 29) (v := ?_) rfl rfl (by kernel_rfl) (by kernel_rfl) (by kernel_rfl) (fun _ _ _ h => h) (Or.inl ⟨by rfl, ?_⟩) (by assumption) ?_
      rotate_left; (intro w hSw; clear hSw; go_simp; try with_reducible rfl)
      all_goals (try simp only [Act.put, List.setIfInBounds_toArray, List.set_cons_zero, List.set_cons_succ])
      refine take_d (i := 7) (some 30) (v := ?_) rfl rfl (by kernel_rfl) (by kernel_rfl) (by kernel_rfl) (fun _ _ _ h => h) (Or.inl ⟨by rfl, ?_⟩) (by assumption) ?_
      rotate_left; (intro w hSw; clear hSw; go_simp; try with_reducible rfl)
      all_goals (try simp only [Act.put, List.setIfInBounds_toArray, List.set_cons_zero, List.set_cons_succ])
      refine take_d (i := 8) (some 31) (v := ?_) rfl rfl (by kernel_rfl) (by kernel_rfl) (by kernel_rfl) (fun _ _ _ h => h) (Or.inl ⟨by rfl, ?_⟩) (by assumption) ?_
      rotate_left; (intro w hSw; clear hSw; go_simp; try with_reducible rfl)
      all_goals (try simp only [Act.put, List.setIfInBounds_toArray, List.set_cons_zero, List.set_cons_succ])
      refine take_d (i := 9) (some 32) (v := ?_) rfl rfl (by kernel_rfl) (by kernel_rfl) (by kernel_rfl) (fun _ _ _ h => h) (Or.inl ⟨by rfl, ?_⟩) (by assumption) ?_
      rotate_left; (intro w hSw; clear hSw; go_simp; try with_reducible rfl)
      all_goals (try simp only [Act.put, List.setIfInBounds_toArray, List.set_cons_zero, List.set_cons_succ])
      refine take_d (i := 10) (some 33) (v := ?_) rfl rfl (by kernel_rfl) (by kernel_rfl) (by kernel_rfl) (fun _ _ _ h => h) (Or.inl ⟨by rfl, ?_⟩) (by assumption) ?_
      rotate_left; (intro w hSw; clear hSw; go_simp; try with_reducible rfl)
      all_goals (try simp only [Act.put, List.setIfInBounds_toArray, List.set_cons_zero, List.set_cons_succ])
      refine take_d (i := 11) (some 34) (v := ?_) rfl rfl (by kernel_rfl) (by kernel_rfl) (by kernel_rfl) (fun _ _ _ h => h) (Or.inl ⟨by rfl, ?_⟩) (by assumption) ?_
      rotate_left; (intro w hSw; clear hSw; go_simp; try with_reducible rfl)
      all_goals (try simp only [Act.put, List.setIfInBounds_toArray, List.set_cons_zero, List.set_cons_succ])
      refine take_d (i := 12) (some 35) (v := ?_) rfl rfl (by kernel_rfl) (by kernel_rfl) (by kernel_rfl) (fun _ _ _ h => h) (Or.inl ⟨by rfl, ?_⟩) (by assumption) ?_
      rotate_left; (intro w hSw; clear hSw; go_simp; try with_reducible rfl)
      all_goals (try simp only [Act.put, List.setIfInBounds_toArray, List.set_cons_zero, List.set_cons_succ])
      refine take_d (i := 13) (some 36) (v := ?_) rfl rfl (by kernel_rfl) (by kernel_rfl) (by kernel_rfl) (fun _ _ _ h => h) (Or.inl ⟨by rfl, ?_⟩) (by assumption) ?_
      rotate_left; (intro w hSw; clear hSw; go_simp; try with_reducible rfl)
      all_goals (try simp only [Act.put, List.setIfInBounds_toArray, List.set_cons_zero, List.set_cons_succ])
      refine take_d (i := 14) (some 37) (v := ?_) rfl rfl (by kernel_rfl) (by kernel_rfl) (by kernel_rfl) (fun _ _ _ h => h) (Or.inl ⟨by rfl, ?_⟩) (by assumption) ?_
      rotate_left; (intro w hSw; clear hSw; go_simp; try with_reducible rfl)
      all_goals (try simp only [Act.put, List.setIfInBounds_toArray, List.set_cons_zero, List.set_cons_succ])
      refine take_d (i := 15) (some 38) (v := ?_) rfl rfl (by kernel_rfl) (by kernel_rfl) (by kernel_rfl) (fun _ _ _ h => h) (Or.inl ⟨by rfl, ?_⟩) (by assumption) ?_
      rotate_left; (intro w hSw; clear hSw; go_simp; try with_reducible rfl)
      all_goals (try simp only [Act.put, List.setIfInBounds_toArray, List.set_cons_zero, List.set_cons_succ])
      refine take_d (i := 16) (some 39) (v := ?_) rfl rfl (by kernel_rfl) (by kernel_rfl) (by kernel_rfl) (fun _ _ _ h => h) (Or.inl ⟨by rfl, ?_⟩) (by assumption) ?_
      rotate_left; (intro w hSw; clear hSw; go_simp; try with_reducible rfl)
      all_goals (try simp only [Act.put, List.setIfInBounds_toArray, List.set_cons_zero, List.set_cons_succ])
      refine take_d (i := 17) (some 40) (v := ?_) rfl rfl (by kernel_rfl) (by kernel_rfl) (by kernel_rfl) (fun _ _ _ h => h) (Or.inl ⟨by rfl, ?_⟩) (by assumption) ?_
      rotate_left; (intro w hSw; clear hSw; go_simp; try with_reducible rfl)
      all_goals (try simp only [Act.put, List.setIfInBounds_toArray, List.set_cons_zero, List.set_cons_succ])
      refine take_d (i := 18) (some 41) (v := ?_) rfl rfl (by kernel_rfl) (by kernel_rfl) (by kernel_rfl) (fun _ _ _ h => h) (Or.inl ⟨by rfl, ?_⟩) (by assumption) ?_
      rotate_left; (intro w hSw; clear hSw; go_simp; try with_reducible rfl)
      all_goals (try simp only [Act.put, List.setIfInBounds_toArray, List.set_cons_zero, List.set_cons_succ])
      refine take_d (i := 19) (some 42) (v := ?_) rfl rfl (by kernel_rfl) (by kernel_rfl) (by kernel_rfl) (fun _ _ _ h => h) (Or.inl ⟨by rfl, ?_⟩) (by assumption) ?_
      rotate_left; (intro w hSw; clear hSw; go_simp; try with_reducible rfl)
      all_goals (try simp only [Act.put, List.setIfInBounds_toArray, List.set_cons_zero, List.set_cons_succ])
      refine take_d (i := 20) (some 43) (v := ?_) rfl rfl (by kernel_rfl) (by kernel_rfl) (by kernel_rfl) (fun _ _ _ h => h) (Or.inl ⟨by rfl, ?_⟩) (by assumption) ?_
      rotate_left; (intro w hSw; clear hSw; go_simp; try with_reducible rfl)
      all_goals (try simp only [Act.put, List.setIfInBounds_toArray, List.set_cons_zero, List.set_cons_succ])
      refine take_d (i := 21) (some 44) (v := ?_) rfl rfl (by kernel_rfl) (by kernel_rfl) (by kernel_rfl) (fun _ _ _ h => h) (Or.inl ⟨by rfl, ?_⟩) (by assumption) ?_
      rotate_left; (intro w hSw; clear hSw; go_simp; try with_reducible rfl)
      all_goals (try simp only [Act.put, List.setIfInBounds_toArray, List.set_cons_zero, List.set_cons_succ])
      refine take_d (i := 22) (some 45) (v := ?_) rfl rfl (by kernel_rfl) (by kernel_rfl) (by kernel_rfl) (fun _ _ _ h => h) (Or.inl ⟨by rfl, ?_⟩) (by assumption) ?_
      rotate_left; (intro w hSw; clear hSw; go_simp; try with_reducible rfl)
      all_goals (try simp only [Act.put, List.setIfInBounds_toArray, List.set_cons_zero, List.set_cons_succ])
      refine wpAnyH_ready (rs := [23]) (by kernel_rfl) (by simp) ?_
      refine AllReadyH.cons (o := _) rfl (fun K hK => ?_) ?_
      ·
        go_simp
        generalize hW : World.alloc _ _ = w2
        have hB' : Below w.heap.size w w2 := by (rw [← hW]; exact below_new hB _)
        have jn := Has.newat (n := 4) hW rfl
        clear hW; have zn := hB.size; clear hB; have hB := hB'; clear hB'
        generalize hS : (World.heap wx).size = Bn at *
        clear hS; generalize hWW : w2 = wx at *; clear hWW
        refine hK.out _ _ ?hS8 (fun hHeld => ?_)
        case hS8 => exact trivial
        clear hK K
        (try simp only [Act.put, List.setIfInBounds_toArray, List.set_cons_zero, List.set_cons_succ])
        refine wpAnyH_ready (rs := [24]) (by kernel_rfl) (by simp) ?_
        refine AllReadyH.cons (o := _) rfl (fun K hK => ?_) ?_
        ·
          rw [if_pos (by rfl)]
          refine wp_store_RwF _ _ rfl _ (rN 27 9 3 n) rfl rfl rfl jn ?_
          intro w3 ho3 hn3
          have hB' : Below w.heap.size w w3 := below_only hB ho3 (by omega)
          clear jn ho3; have jn := hn3; clear hn3; clear hB; have hB := hB'; clear hB'
          generalize hWW : w3 = wx at *; clear hWW
          refine hK.out _ _ ?hS9 (fun hHeld => ?_)
          case hS9 => exact trivial
          clear hK K
          (try simp only [Act.put, List.setIfInBounds_toArray, List.set_cons_zero, List.set_cons_succ])
          refine wpAnyH_done (by kernel_rfl) ?_ _
          refine NoPanic.normal ?_
          have hrn := rN_in (b3 := 27) (b2 := 9) (b := 3) (n := n) (by decide) (by decide) (by omega)
          have HCS : Hid (cntI (rN 27 9 3) (n + 1) = cntI (rN 27 9 3) n + if 0 < (rbL (rN 27 9 3 n)).length then 1 else 0) := hide rfl
          generalize rN 27 9 3 n = F at *
          have HRB := hide (rowsBefore_any F hrn)
          generalize (rbL F).length = q at *
          by_cases hq : 0 < q
          · rw [if_pos hq] at HCS
            have hqi : (0 : Int) < q := by omega
            clear hrn
            go_wp2_with (first | (refine load_A4 rfl _ rfl _ _ rfl jn (by omega) ?_) | (go_at_call 45; (with_reducible refine (HRB.out _).mono ?_); rintro e w2 ⟨A, cc, rfl, -, hb2⟩; have hB' := below_go hB hb2))
            go_roundw
            case rel => exact ⟨n + 1, c + 1, by omega, by have h := HCS.out; have h2 := HCC.out; omega, by go_num, by go_num, hB'⟩
            case measure => (simp [intOf]; try omega)
          · rw [if_neg hq] at HCS
            have hqi : ¬ (0 : Int) < q := by omega
            clear hrn
            go_wp2_with (first | (refine load_A4 rfl _ rfl _ _ rfl jn (by omega) ?_) | (go_at_call 45; (with_reducible refine (HRB.out _).mono ?_); rintro e w2 ⟨A, cc, rfl, -, hb2⟩; have hB' := below_go hB hb2))
            go_roundw
            case rel => exact ⟨n + 1, c, by omega, by have h := HCS.out; have h2 := HCC.out; omega, by go_num, rfl, hB'⟩
            case measure => (simp [intOf]; try omega)
        exact AllReadyH.nil
      exact AllReadyH.nil
    · obtain rfl : n = 81 := by omega
      have HC : Hid (c = N) := hide (by rw [HCC.out, HN.out])
      go_wp2
      go_ret2
      exact ⟨by rw [← HC.out]; rfl, hB⟩

set_option maxHeartbeats 8000000 in
set_option maxRecDepth 100000 in
theorem cim3 (w : World) : Calls Try.prog 12 #[.int .i64 3] w fun e w' => e = .returned (.tuple #[.int .i64 (cntI (rN 64 16 4) 256 : Nat), .bool true]) ∧ Below w.heap.size w w' := by
  have hin : inB 3 0 6 = true := by decide
  obtain ⟨N, hN⟩ : ∃ N, N = cntI (rN 64 16 4) 256 := ⟨_, rfl⟩
  rw [← hN]
  have HN := hide hN
  clear hN
  go_enter Try.func12, Try.ntmps12
  go_wp2_with (go_at_call 48; (with_reducible refine (in_any _ _ _ _).mono ?_); rintro e w' ⟨rfl, rfl⟩; (try rw [hin]))
  go_loopw [4, 20] (fun v4 v20 wr => ∃ (n c : Nat), n ≤ 256 ∧ c = cntI (rN 64 16 4) n ∧ v20 = .int .i64 n ∧ v4 = .int .i64 c ∧ Below w.heap.size w wr) (fun _ v20 _ => 256 - (intOf v20).toNat)
  case atStart => exact ⟨0, 0, by omega, rfl, rfl, rfl, (by repeat (first | (with_reducible exact Below.refl _ _) | (with_reducible assumption) | (with_reducible refine below_go ?_ (by with_reducible assumption)) | (with_reducible refine below_new ?_ _) | ((with_reducible refine below_put ?_ ?_ _); rotate_left; (dsimp only; omega)) | (with_reducible refine Below.drew ?_) | (with_reducible refine below_dn ?_ _)))⟩
  case round =>
    obtain ⟨n, c, hn, hc, rfl, rfl, hB⟩ := hrel
    have a0 : (0 : Int) ≤ n := by omega
    have hcl : c ≤ n := hc ▸ cntI_le _ n
    have HCC := hide hc
    clear hc
    by_cases hlt : n < 256
    · have a1 : (n : Int) < 256 := by omega
      have k2 : IntKind.i64.wrap 4 = 4 := by kernel_rfl
      have k3 : IntKind.i64.wrap 16 = 16 := by kernel_rfl
      have k4 : IntKind.i64.wrap 64 = 64 := by kernel_rfl
      have k5 : IntKind.i64.wrap 256 = 256 := by kernel_rfl
      have s0 : IntKind.i64.wrap ((n : Int) / 64) = (n : Int) / 64 := IntWalk.i64_in _ (by omega)
      have s1 : IntKind.i64.wrap ((n : Int) / 16) = (n : Int) / 16 := IntWalk.i64_in _ (by omega)
      have s2 : ((n : Int) / 16).tmod 4 = (n : Int) / 16 % 4 := Int.tmod_eq_emod_of_nonneg (by omega)
      have s3 : IntKind.i64.wrap ((n : Int) / 4) = (n : Int) / 4 := IntWalk.i64_in _ (by omega)
      have s4 : ((n : Int) / 4).tmod 4 = (n : Int) / 4 % 4 := Int.tmod_eq_emod_of_nonneg (by omega)
      have s5 : (n : Int).tmod 4 = (n : Int) % 4 := Int.tmod_eq_emod_of_nonneg (by omega)
      go_wp2_with fail
      refine wp_region_noPanic ?_
      refine wp_region_held_drew (S := (fun _ => True)) (by kernel_rfl) ?hS010 (fun hHeld => ?_)
      case hS010 => exact trivial
      have hB' : Below w.heap.size w (World.drew _) := Below.drew hB
      generalize hWW : World.drew _ = wx at *; clear hWW
      clear hB; have hB := hB'; clear hB'
      refine take_d (i := 0) (some 23) (v := ?_) rfl rfl (by kernel_rfl) (by kernel_rfl) (by kernel_rfl) (fun _ _ _ h => h) (Or.inl ⟨by rfl, ?_⟩) (by assumption) ?_
      rotate_left; (intro w hSw; clear hSw; go_simp; try with_reducible rfl)
      all_goals (try simp only [Act.put, List.setIfInBounds_toArray, List.set_cons_zero, List.set_cons_succ])
      refine take_d (i := 1) (some 24) (v := ?_) rfl rfl (by kernel_rfl) (by kernel_rfl) (by kernel_rfl) (fun _ _ _ h => h) (Or.inl ⟨by rfl, ?_⟩) (by assumption) ?_
      rotate_left; (intro w hSw; clear hSw; go_simp; try with_reducible rfl)
      all_goals (try simp only [Act.put, List.setIfInBounds_toArray, List.set_cons_zero, List.set_cons_succ])
      refine take_d (i := 2) (some 25) (v := ?_) rfl rfl (by kernel_rfl) (by kernel_rfl) (by kernel_rfl) (fun _ _ _ h => h) (Or.inl ⟨by rfl, ?_⟩) (by assumption) ?_
      rotate_left; (intro w hSw; clear hSw; go_simp; try with_reducible rfl)
      all_goals (try simp only [Act.put, List.setIfInBounds_toArray, List.set_cons_zero, List.set_cons_succ])
      refine take_d (i := 3) (some 26) (v := ?_) rfl rfl (by kernel_rfl) (by kernel_rfl) (by kernel_rfl) (fun _ _ _ h => h) (Or.inl ⟨by rfl, ?_⟩) (by assumption) ?_
      rotate_left; (intro w hSw; clear hSw; go_simp; try with_reducible rfl)
      all_goals (try simp only [Act.put, List.setIfInBounds_toArray, List.set_cons_zero, List.set_cons_succ])
      refine take_d (i := 4) (some 27) (v := ?_) rfl rfl (by kernel_rfl) (by kernel_rfl) (by kernel_rfl) (fun _ _ _ h => h) (Or.inl ⟨by rfl, ?_⟩) (by assumption) ?_
      rotate_left; (intro w hSw; clear hSw; go_simp; try with_reducible rfl)
      all_goals (try simp only [Act.put, List.setIfInBounds_toArray, List.set_cons_zero, List.set_cons_succ])
      refine take_d (i := 5) (some 28) (v := ?_) rfl rfl (by kernel_rfl) (by kernel_rfl) (by kernel_rfl) (fun _ _ _ h => h) (Or.inl ⟨by rfl, ?_⟩) (by assumption) ?_
      rotate_left; (intro w hSw; clear hSw; go_simp; try with_reducible rfl)
      all_goals (try simp only [Act.put, List.setIfInBounds_toArray, List.set_cons_zero, List.set_cons_succ])
      refine take_d (i := 6) (some 29) (v := ?_) rfl rfl (by kernel_rfl) (by kernel_rfl) (by kernel_rfl) (fun _ _ _ h => h) (Or.inl ⟨by rfl, ?_⟩) (by assumption) ?_
      rotate_left; (intro w hSw; clear hSw; go_simp; try with_reducible rfl)
      all_goals (try simp only [Act.put, List.setIfInBounds_toArray, List.set_cons_zero, List.set_cons_succ])
      refine take_d (i := 7) (some 30) (v := ?_) rfl rfl (by kernel_rfl) (by kernel_rfl) (by kernel_rfl) (fun _ _ _ h => h) (Or.inl ⟨by rfl, ?_⟩) (by assumption) ?_
      rotate_left; (intro w hSw; clear hSw; go_simp; try with_reducible rfl)
      all_goals (try simp only [Act.put, List.setIfInBounds_toArray, List.set_cons_zero, List.set_cons_succ])
      refine take_d (i := 8) (some 31) (v := ?_) rfl rfl (by kernel_rfl) (by kernel_rfl) (by kernel_rfl) (fun _ _ _ h => h) (Or.inl ⟨by rfl, ?_⟩) (by assumption) ?_
      rotate_left; (intro w hSw; clear hSw; go_simp; try with_reducible rfl)
      all_goals (try simp only [Act.put, List.setIfInBounds_toArray, List.set_cons_zero, List.set_cons_succ])
      refine take_d (i := 9) (some 32) (v := ?_) rfl rfl (by kernel_rfl) (by kernel_rfl) (by kernel_rfl) (fun _ _ _ h => h) (Or.inl ⟨by rfl, ?_⟩) (by assumption) ?_
      rotate_left; (intro w hSw; clear hSw; go_simp; try with_reducible rfl)
      all_goals (try simp only [Act.put, List.setIfInBounds_toArray, List.set_cons_zero, List.set_cons_succ])
      refine take_d (i := 10) (some 33) (v := ?_) rfl rfl (by kernel_rfl) (by kernel_rfl) (by kernel_rfl) (fun _ _ _ h => h) (Or.inl ⟨by rfl, ?_⟩) (by assumption) ?_
      rotate_left; (intro w hSw; clear hSw; go_simp; try with_reducible rfl)
      all_goals (try simp only [Act.put, List.setIfInBounds_toArray, List.set_cons_zero, List.set_cons_succ])
      refine take_d (i := 11) (some 34) (v := ?_) rfl rfl (by kernel_rfl) (by kernel_rfl) (by kernel_rfl) (fun _ _ _ h => h) (Or.inl ⟨by rfl, ?_⟩) (by assumption) ?_
      rotate_left; (intro w hSw; clear hSw; go_simp; try with_reducible rfl)
      all_goals (try simp only [Act.put, List.setIfInBounds_toArray, List.set_cons_zero, List.set_cons_succ])
      refine take_d (i := 12) (some 35) (v := ?_) rfl rfl (by kernel_rfl) (by kernel_rfl) (by kernel_rfl) (fun _ _ _ h => h) (Or.inl ⟨by rfl, ?_⟩) (by assumption) ?_
      rotate_left; (intro w hSw; clear hSw; go_simp; try with_reducible rfl)
      all_goals (try simp only [Act.put, List.setIfInBounds_toArray, List.set_cons_zero, List.set_cons_succ])
      refine take_d (i := 13) (some 36) (v := ?_) rfl rfl (by kernel_rfl) (by kernel_rfl) (by kernel_rfl) (fun _ _ _ h => h) (Or.inl ⟨by rfl, ?_⟩) (by assumption) ?_
      rotate_left; (intro w hSw; clear hSw; go_simp; try with_reducible rfl)
      all_goals (try simp only [Act.put, List.setIfInBounds_toArray, List.set_cons_zero, List.set_cons_succ])
      refine take_d (i := 14) (some 37) (v := ?_) rfl rfl (by kernel_rfl) (by kernel_rfl) (by kernel_rfl) (fun _ _ _ h => h) (Or.inl ⟨by rfl, ?_⟩) (by assumption) ?_
      rotate_left; (intro w hSw; clear hSw; go_simp; try with_reducible rfl)
      all_goals (try simp only [Act.put, List.setIfInBounds_toArray, List.set_cons_zero, List.set_cons_succ])
      refine take_d (i := 15) (some 38) (v := ?_) rfl rfl (by kernel_rfl) (by kernel_rfl) (by kernel_rfl) (fun _ _ _ h => h) (Or.inl ⟨by rfl, ?_⟩) (by assumption) ?_
      rotate_left; (intro w hSw; clear hSw; go_simp; try with_reducible rfl)
      all_goals (try simp only [Act.put, List.setIfInBounds_toArray, List.set_cons_zero, List.set_cons_succ])
      refine take_d (i := 16) (some 39) (v := ?_) rfl rfl (by kernel_rfl) (by kernel_rfl) (by kernel_rfl) (fun _ _ _ h => h) (Or.inl ⟨by rfl, ?_⟩) (by assumption) ?_
      rotate_left; (intro w hSw; clear hSw; go_simp; try with_reducible rfl)
      all_goals (try simp only [Act.put, List.setIfInBounds_toArray, List.set_cons_zero, List.set_cons_succ])
      refine take_d (i := 17) (some 40) (v := ?_) rfl rfl (by kernel_rfl) (by kernel_rfl) (by kernel_rfl) (fun _ _ _ h => h) (Or.inl ⟨by rfl, ?_⟩) (by assumption) ?_
      rotate_left; (intro w hSw; clear hSw; go_simp; try with_reducible rfl)
      all_goals (try simp only [Act.put, List.setIfInBounds_toArray, List.set_cons_zero, List.set_cons_succ])
      refine take_d (i := 18) (some 41) (v := ?_) rfl rfl (by kernel_rfl) (by kernel_rfl) (by kernel_rfl) (fun _ _ _ h => h) (Or.inl ⟨by rfl, ?_⟩) (by assumption) ?_
      rotate_left; (intro w hSw; clear hSw; go_simp; try with_reducible rfl)
      all_goals (try simp only [Act.put, List.setIfInBounds_toArray, List.set_cons_zero, List.set_cons_succ])
      refine take_d (i := 19) (some 42) (v := ?_) rfl rfl (by kernel_rfl) (by kernel_rfl) (by kernel_rfl) (fun _ _ _ h => h) (Or.inl ⟨by rfl, ?_⟩) (by assumption) ?_
      rotate_left; (intro w hSw; clear hSw; go_simp; try with_reducible rfl)
      all_goals (try simp only [Act.put, List.setIfInBounds_toArray, List.set_cons_zero, List.set_cons_succ])
      refine take_d (i := 20) (some 43) (v := ?_) rfl rfl (by kernel_rfl) (by kernel_rfl) (by kernel_rfl) (fun _ _ _ h => h) (Or.inl ⟨by rfl, ?_⟩) (by assumption) ?_
      rotate_left; (intro w hSw; clear hSw; go_simp; try with_reducible rfl)
      all_goals (try simp only [Act.put, List.setIfInBounds_toArray, List.set_cons_zero, List.set_cons_succ])
      refine take_d (i := 21) (some 44) (v := ?_) rfl rfl (by kernel_rfl) (by kernel_rfl) (by kernel_rfl) (fun _ _ _ h => h) (Or.inl ⟨by rfl, ?_⟩) (by assumption) ?_
      rotate_left; (intro w hSw; clear hSw; go_simp; try with_reducible rfl)
      all_goals (try simp only [Act.put, List.setIfInBounds_toArray, List.set_cons_zero, List.set_cons_succ])
      refine take_d (i := 22) (some 45) (v := ?_) rfl rfl (by kernel_rfl) (by kernel_rfl) (by kernel_rfl) (fun _ _ _ h => h) (Or.inl ⟨by rfl, ?_⟩) (by assumption) ?_
      rotate_left; (intro w hSw; clear hSw; go_simp; try with_reducible rfl)
      all_goals (try simp only [Act.put, List.setIfInBounds_toArray, List.set_cons_zero, List.set_cons_succ])
      refine wpAnyH_ready (rs := [23]) (by kernel_rfl) (by simp) ?_
      refine AllReadyH.cons (o := _) rfl (fun K hK => ?_) ?_
      ·
        go_simp
        generalize hW : World.alloc _ _ = w2
        have hB' : Below w.heap.size w w2 := by (rw [← hW]; exact below_new hB _)
        have jn := Has.newat (n := 4) hW rfl
        clear hW; have zn := hB.size; clear hB; have hB := hB'; clear hB'
        generalize hS : (World.heap wx).size = Bn at *
        clear hS; generalize hWW : w2 = wx at *; clear hWW
        refine hK.out _ _ ?hS11 (fun hHeld => ?_)
        case hS11 => exact trivial
        clear hK K
        (try simp only [Act.put, List.setIfInBounds_toArray, List.set_cons_zero, List.set_cons_succ])
        refine wpAnyH_ready (rs := [24]) (by kernel_rfl) (by simp) ?_
        refine AllReadyH.cons (o := _) rfl (fun K hK => ?_) ?_
        ·
          rw [if_pos (by rfl)]
          refine wp_store_RwF _ _ rfl _ (rN 64 16 4 n) rfl rfl rfl jn ?_
          intro w3 ho3 hn3
          have hB' : Below w.heap.size w w3 := below_only hB ho3 (by omega)
          clear jn ho3; have jn := hn3; clear hn3; clear hB; have hB := hB'; clear hB'
          generalize hWW : w3 = wx at *; clear hWW
          refine hK.out _ _ ?hS12 (fun hHeld => ?_)
          case hS12 => exact trivial
          clear hK K
          (try simp only [Act.put, List.setIfInBounds_toArray, List.set_cons_zero, List.set_cons_succ])
          refine wpAnyH_done (by kernel_rfl) ?_ _
          refine NoPanic.normal ?_
          have hrn := rN_in (b3 := 64) (b2 := 16) (b := 4) (n := n) (by decide) (by decide) (by omega)
          have HCS : Hid (cntI (rN 64 16 4) (n + 1) = cntI (rN 64 16 4) n + if 0 < (rbL (rN 64 16 4 n)).length then 1 else 0) := hide rfl
          generalize rN 64 16 4 n = F at *
          have HRB := hide (rowsBefore_any F hrn)
          generalize (rbL F).length = q at *
          by_cases hq : 0 < q
          · rw [if_pos hq] at HCS
            have hqi : (0 : Int) < q := by omega
            clear hrn
            go_wp2_with (first | (refine load_A4 rfl _ rfl _ _ rfl jn (by omega) ?_) | (go_at_call 45; (with_reducible refine (HRB.out _).mono ?_); rintro e w2 ⟨A, cc, rfl, -, hb2⟩; have hB' := below_go hB hb2))
            go_roundw
            case rel => exact ⟨n + 1, c + 1, by omega, by have h := HCS.out; have h2 := HCC.out; omega, by go_num, by go_num, hB'⟩
            case measure => (simp [intOf]; try omega)
          · rw [if_neg hq] at HCS
            have hqi : ¬ (0 : Int) < q := by omega
            clear hrn
            go_wp2_with (first | (refine load_A4 rfl _ rfl _ _ rfl jn (by omega) ?_) | (go_at_call 45; (with_reducible refine (HRB.out _).mono ?_); rintro e w2 ⟨A, cc, rfl, -, hb2⟩; have hB' := below_go hB hb2))
            go_roundw
            case rel => exact ⟨n + 1, c, by omega, by have h := HCS.out; have h2 := HCC.out; omega, by go_num, rfl, hB'⟩
            case measure => (simp [intOf]; try omega)
        exact AllReadyH.nil
      exact AllReadyH.nil
    · obtain rfl : n = 256 := by omega
      have HC : Hid (c = N) := hide (by rw [HCC.out, HN.out])
      go_wp2
      go_ret2
      exact ⟨by rw [← HC.out]; rfl, hB⟩

set_option maxHeartbeats 8000000 in
set_option maxRecDepth 100000 in
theorem cim4 (w : World) : Calls Try.prog 12 #[.int .i64 4] w fun e w' => e = .returned (.tuple #[.int .i64 (cntI (rN 125 25 5) 625 : Nat), .bool true]) ∧ Below w.heap.size w w' := by
  have hin : inB 4 0 6 = true := by decide
  obtain ⟨N, hN⟩ : ∃ N, N = cntI (rN 125 25 5) 625 := ⟨_, rfl⟩
  rw [← hN]
  have HN := hide hN
  clear hN
  go_enter Try.func12, Try.ntmps12
  go_wp2_with (go_at_call 48; (with_reducible refine (in_any _ _ _ _).mono ?_); rintro e w' ⟨rfl, rfl⟩; (try rw [hin]))
  go_loopw [4, 20] (fun v4 v20 wr => ∃ (n c : Nat), n ≤ 625 ∧ c = cntI (rN 125 25 5) n ∧ v20 = .int .i64 n ∧ v4 = .int .i64 c ∧ Below w.heap.size w wr) (fun _ v20 _ => 625 - (intOf v20).toNat)
  case atStart => exact ⟨0, 0, by omega, rfl, rfl, rfl, (by repeat (first | (with_reducible exact Below.refl _ _) | (with_reducible assumption) | (with_reducible refine below_go ?_ (by with_reducible assumption)) | (with_reducible refine below_new ?_ _) | ((with_reducible refine below_put ?_ ?_ _); rotate_left; (dsimp only; omega)) | (with_reducible refine Below.drew ?_) | (with_reducible refine below_dn ?_ _)))⟩
  case round =>
    obtain ⟨n, c, hn, hc, rfl, rfl, hB⟩ := hrel
    have a0 : (0 : Int) ≤ n := by omega
    have hcl : c ≤ n := hc ▸ cntI_le _ n
    have HCC := hide hc
    clear hc
    by_cases hlt : n < 625
    · have a1 : (n : Int) < 625 := by omega
      have k2 : IntKind.i64.wrap 5 = 5 := by kernel_rfl
      have k3 : IntKind.i64.wrap 25 = 25 := by kernel_rfl
      have k4 : IntKind.i64.wrap 125 = 125 := by kernel_rfl
      have k5 : IntKind.i64.wrap 625 = 625 := by kernel_rfl
      have s0 : IntKind.i64.wrap ((n : Int) / 125) = (n : Int) / 125 := IntWalk.i64_in _ (by omega)
      have s1 : IntKind.i64.wrap ((n : Int) / 25) = (n : Int) / 25 := IntWalk.i64_in _ (by omega)
      have s2 : ((n : Int) / 25).tmod 5 = (n : Int) / 25 % 5 := Int.tmod_eq_emod_of_nonneg (by omega)
      have s3 : IntKind.i64.wrap ((n : Int) / 5) = (n : Int) / 5 := IntWalk.i64_in _ (by omega)
      have s4 : ((n : Int) / 5).tmod 5 = (n : Int) / 5 % 5 := Int.tmod_eq_emod_of_nonneg (by omega)
      have s5 : (n : Int).tmod 5 = (n : Int) % 5 := Int.tmod_eq_emod_of_nonneg (by omega)
      go_wp2_with fail
      refine wp_region_noPanic ?_
      refine wp_region_held_drew (S := (fun _ => True)) (by kernel_rfl) ?hS013 (fun hHeld => ?_)
      case hS013 => exact trivial
      have hB' : Below w.heap.size w (World.drew _) := Below.drew hB
      generalize hWW : World.drew _ = wx at *; clear hWW
      clear hB; have hB := hB'; clear hB'
      refine take_d (i := 0) (some 23) (v := ?_) rfl rfl (by kernel_rfl) (by kernel_rfl) (by kernel_rfl) (fun _ _ _ h => h) (Or.inl ⟨by rfl, ?_⟩) (by assumption) ?_
      rotate_left; (intro w hSw; clear hSw; go_simp; try with_reducible rfl)
      all_goals (try simp only [Act.put, List.setIfInBounds_toArray, List.set_cons_zero, List.set_cons_succ])
      refine take_d (i := 1) (some 24) (v := ?_) rfl rfl (by kernel_rfl) (by kernel_rfl) (by kernel_rfl) (fun _ _ _ h => h) (Or.inl ⟨by rfl, ?_⟩) (by assumption) ?_
      rotate_left; (intro w hSw; clear hSw; go_simp; try with_reducible rfl)
      all_goals (try simp only [Act.put, List.setIfInBounds_toArray, List.set_cons_zero, List.set_cons_succ])
      refine take_d (i := 2) (some 25) (v := ?_) rfl rfl (by kernel_rfl) (by kernel_rfl) (by kernel_rfl) (fun _ _ _ h => h) (Or.inl ⟨by rfl, ?_⟩) (by assumption) ?_
      rotate_left; (intro w hSw; clear hSw; go_simp; try with_reducible rfl)
      all_goals (try simp only [Act.put, List.setIfInBounds_toArray, List.set_cons_zero, List.set_cons_succ])
      refine take_d (i := 3) (some 26) (v := ?_) rfl rfl (by kernel_rfl) (by kernel_rfl) (by kernel_rfl) (fun _ _ _ h => h) (Or.inl ⟨by rfl, ?_⟩) (by assumption) ?_
      rotate_left; (intro w hSw; clear hSw; go_simp; try with_reducible rfl)
      all_goals (try simp only [Act.put, List.setIfInBounds_toArray, List.set_cons_zero, List.set_cons_succ])
      refine take_d (i := 4) (some 27) (v := ?_) rfl rfl (by kernel_rfl) (by kernel_rfl) (by kernel_rfl) (fun _ _ _ h => h) (Or.inl ⟨by rfl, ?_⟩) (by assumption) ?_
      rotate_left; (intro w hSw; clear hSw; go_simp; try with_reducible rfl)
      all_goals (try simp only [Act.put, List.setIfInBounds_toArray, List.set_cons_zero, List.set_cons_succ])
      refine take_d (i := 5) (some 28) (v := ?_) rfl rfl (by kernel_rfl) (by kernel_rfl) (by kernel_rfl) (fun _ _ _ h => h) (Or.inl ⟨by rfl, ?_⟩) (by assumption) ?_
      rotate_left; (intro w hSw; clear hSw; go_simp; try with_reducible rfl)
      all_goals (try simp only [Act.put, List.setIfInBounds_toArray, List.set_cons_zero, List.set_cons_succ])
      refine take_d (i := 6) (some 29) (v := ?_) rfl rfl (by kernel_rfl) (by kernel_rfl) (by kernel_rfl) (fun _ _ _ h => h) (Or.inl ⟨by rfl, ?_⟩) (by assumption) ?_
      rotate_left; (intro w hSw; clear hSw; go_simp; try with_reducible rfl)
      all_goals (try simp only [Act.put, List.setIfInBounds_toArray, List.set_cons_zero, List.set_cons_succ])
      refine take_d (i := 7) (some 30) (v := ?_) rfl rfl (by kernel_rfl) (by kernel_rfl) (by kernel_rfl) (fun _ _ _ h => h) (Or.inl ⟨by rfl, ?_⟩) (by assumption) ?_
      rotate_left; (intro w hSw; clear hSw; go_simp; try with_reducible rfl)
      all_goals (try simp only [Act.put, List.setIfInBounds_toArray, List.set_cons_zero, List.set_cons_succ])
      refine take_d (i := 8) (some 31) (v := ?_) rfl rfl (by kernel_rfl) (by kernel_rfl) (by kernel_rfl) (fun _ _ _ h => h) (Or.inl ⟨by rfl, ?_⟩) (by assumption) ?_
      rotate_left; (intro w hSw; clear hSw; go_simp; try with_reducible rfl)
      all_goals (try simp only [Act.put, List.setIfInBounds_toArray, List.set_cons_zero, List.set_cons_succ])
      refine take_d (i := 9) (some 32) (v := ?_) rfl rfl (by kernel_rfl) (by kernel_rfl) (by kernel_rfl) (fun _ _ _ h => h) (Or.inl ⟨by rfl, ?_⟩) (by assumption) ?_
      rotate_left; (intro w hSw; clear hSw; go_simp; try with_reducible rfl)
      all_goals (try simp only [Act.put, List.setIfInBounds_toArray, List.set_cons_zero, List.set_cons_succ])
      refine take_d (i := 10) (some 33) (v := ?_) rfl rfl (by kernel_rfl) (by kernel_rfl) (by kernel_rfl) (fun _ _ _ h => h) (Or.inl ⟨by rfl, ?_⟩) (by assumption) ?_
      rotate_left; (intro w hSw; clear hSw; go_simp; try with_reducible rfl)
      all_goals (try simp only [Act.put, List.setIfInBounds_toArray, List.set_cons_zero, List.set_cons_succ])
      refine take_d (i := 11) (some 34) (v := ?_) rfl rfl (by kernel_rfl) (by kernel_rfl) (by kernel_rfl) (fun _ _ _ h => h) (Or.inl ⟨by rfl, ?_⟩) (by assumption) ?_
      rotate_left; (intro w hSw; clear hSw; go_simp; try with_reducible rfl)
      all_goals (try simp only [Act.put, List.setIfInBounds_toArray, List.set_cons_zero, List.set_cons_succ])
      refine take_d (i := 12) (some 35) (v := ?_) rfl rfl (by kernel_rfl) (by kernel_rfl) (by kernel_rfl) (fun _ _ _ h => h) (Or.inl ⟨by rfl, ?_⟩) (by assumption) ?_
      rotate_left; (intro w hSw; clear hSw; go_simp; try with_reducible rfl)
      all_goals (try simp only [Act.put, List.setIfInBounds_toArray, List.set_cons_zero, List.set_cons_succ])
      refine take_d (i := 13) (some 36) (v := ?_) rfl rfl (by kernel_rfl) (by kernel_rfl) (by kernel_rfl) (fun _ _ _ h => h) (Or.inl ⟨by rfl, ?_⟩) (by assumption) ?_
      rotate_left; (intro w hSw; clear hSw; go_simp; try with_reducible rfl)
      all_goals (try simp only [Act.put, List.setIfInBounds_toArray, List.set_cons_zero, List.set_cons_succ])
      refine take_d (i := 14) (some 37) (v := ?_) rfl rfl (by kernel_rfl) (by kernel_rfl) (by kernel_rfl) (fun _ _ _ h => h) (Or.inl ⟨by rfl, ?_⟩) (by assumption) ?_
      rotate_left; (intro w hSw; clear hSw; go_simp; try with_reducible rfl)
      all_goals (try simp only [Act.put, List.setIfInBounds_toArray, List.set_cons_zero, List.set_cons_succ])
      refine take_d (i := 15) (some 38) (v := ?_) rfl rfl (by kernel_rfl) (by kernel_rfl) (by kernel_rfl) (fun _ _ _ h => h) (Or.inl ⟨by rfl, ?_⟩) (by assumption) ?_
      rotate_left; (intro w hSw; clear hSw; go_simp; try with_reducible rfl)
      all_goals (try simp only [Act.put, List.setIfInBounds_toArray, List.set_cons_zero, List.set_cons_succ])
      refine take_d (i := 16) (some 39) (v := ?_) rfl rfl (by kernel_rfl) (by kernel_rfl) (by kernel_rfl) (fun _ _ _ h => h) (Or.inl ⟨by rfl, ?_⟩) (by assumption) ?_
      rotate_left; (intro w hSw; clear hSw; go_simp; try with_reducible rfl)
      all_goals (try simp only [Act.put, List.setIfInBounds_toArray, List.set_cons_zero, List.set_cons_succ])
      refine take_d (i := 17) (some 40) (v := ?_) rfl rfl (by kernel_rfl) (by kernel_rfl) (by kernel_rfl) (fun _ _ _ h => h) (Or.inl ⟨by rfl, ?_⟩) (by assumption) ?_
      rotate_left; (intro w hSw; clear hSw; go_simp; try with_reducible rfl)
      all_goals (try simp only [Act.put, List.setIfInBounds_toArray, List.set_cons_zero, List.set_cons_succ])
      refine take_d (i := 18) (some 41) (v := ?_) rfl rfl (by kernel_rfl) (by kernel_rfl) (by kernel_rfl) (fun _ _ _ h => h) (Or.inl ⟨by rfl, ?_⟩) (by assumption) ?_
      rotate_left; (intro w hSw; clear hSw; go_simp; try with_reducible rfl)
      all_goals (try simp only [Act.put, List.setIfInBounds_toArray, List.set_cons_zero, List.set_cons_succ])
      refine take_d (i := 19) (some 42) (v := ?_) rfl rfl (by kernel_rfl) (by kernel_rfl) (by kernel_rfl) (fun _ _ _ h => h) (Or.inl ⟨by rfl, ?_⟩) (by assumption) ?_
      rotate_left; (intro w hSw; clear hSw; go_simp; try with_reducible rfl)
      all_goals (try simp only [Act.put, List.setIfInBounds_toArray, List.set_cons_zero, List.set_cons_succ])
      refine take_d (i := 20) (some 43) (v := ?_) rfl rfl (by kernel_rfl) (by kernel_rfl) (by kernel_rfl) (fun _ _ _ h => h) (Or.inl ⟨by rfl, ?_⟩) (by assumption) ?_
      rotate_left; (intro w hSw; clear hSw; go_simp; try with_reducible rfl)
      all_goals (try simp only [Act.put, List.setIfInBounds_toArray, List.set_cons_zero, List.set_cons_succ])
      refine take_d (i := 21) (some 44) (v := ?_) rfl rfl (by kernel_rfl) (by kernel_rfl) (by kernel_rfl) (fun _ _ _ h => h) (Or.inl ⟨by rfl, ?_⟩) (by assumption) ?_
      rotate_left; (intro w hSw; clear hSw; go_simp; try with_reducible rfl)
      all_goals (try simp only [Act.put, List.setIfInBounds_toArray, List.set_cons_zero, List.set_cons_succ])
      refine take_d (i := 22) (some 45) (v := ?_) rfl rfl (by kernel_rfl) (by kernel_rfl) (by kernel_rfl) (fun _ _ _ h => h) (Or.inl ⟨by rfl, ?_⟩) (by assumption) ?_
      rotate_left; (intro w hSw; clear hSw; go_simp; try with_reducible rfl)
      all_goals (try simp only [Act.put, List.setIfInBounds_toArray, List.set_cons_zero, List.set_cons_succ])
      refine wpAnyH_ready (rs := [23]) (by kernel_rfl) (by simp) ?_
      refine AllReadyH.cons (o := _) rfl (fun K hK => ?_) ?_
      ·
        go_simp
        generalize hW : World.alloc _ _ = w2
        have hB' : Below w.heap.size w w2 := by (rw [← hW]; exact below_new hB _)
        have jn := Has.newat (n := 4) hW rfl
        clear hW; have zn := hB.size; clear hB; have hB := hB'; clear hB'
        generalize hS : (World.heap wx).size = Bn at *
        clear hS; generalize hWW : w2 = wx at *; clear hWW
        refine hK.out _ _ ?hS14 (fun hHeld => ?_)
        case hS14 => exact trivial
        clear hK K
        (try simp only [Act.put, List.setIfInBounds_toArray, List.set_cons_zero, List.set_cons_succ])
        refine wpAnyH_ready (rs := [24]) (by kernel_rfl) (by simp) ?_
        refine AllReadyH.cons (o := _) rfl (fun K hK => ?_) ?_
        ·
          rw [if_pos (by rfl)]
          refine wp_store_RwF _ _ rfl _ (rN 125 25 5 n) rfl rfl rfl jn ?_
          intro w3 ho3 hn3
          have hB' : Below w.heap.size w w3 := below_only hB ho3 (by omega)
          clear jn ho3; have jn := hn3; clear hn3; clear hB; have hB := hB'; clear hB'
          generalize hWW : w3 = wx at *; clear hWW
          refine hK.out _ _ ?hS15 (fun hHeld => ?_)
          case hS15 => exact trivial
          clear hK K
          (try simp only [Act.put, List.setIfInBounds_toArray, List.set_cons_zero, List.set_cons_succ])
          refine wpAnyH_done (by kernel_rfl) ?_ _
          refine NoPanic.normal ?_
          have hrn := rN_in (b3 := 125) (b2 := 25) (b := 5) (n := n) (by decide) (by decide) (by omega)
          have HCS : Hid (cntI (rN 125 25 5) (n + 1) = cntI (rN 125 25 5) n + if 0 < (rbL (rN 125 25 5 n)).length then 1 else 0) := hide rfl
          generalize rN 125 25 5 n = F at *
          have HRB := hide (rowsBefore_any F hrn)
          generalize (rbL F).length = q at *
          by_cases hq : 0 < q
          · rw [if_pos hq] at HCS
            have hqi : (0 : Int) < q := by omega
            clear hrn
            go_wp2_with (first | (refine load_A4 rfl _ rfl _ _ rfl jn (by omega) ?_) | (go_at_call 45; (with_reducible refine (HRB.out _).mono ?_); rintro e w2 ⟨A, cc, rfl, -, hb2⟩; have hB' := below_go hB hb2))
            go_roundw
            case rel => exact ⟨n + 1, c + 1, by omega, by have h := HCS.out; have h2 := HCC.out; omega, by go_num, by go_num, hB'⟩
            case measure => (simp [intOf]; try omega)
          · rw [if_neg hq] at HCS
            have hqi : ¬ (0 : Int) < q := by omega
            clear hrn
            go_wp2_with (first | (refine load_A4 rfl _ rfl _ _ rfl jn (by omega) ?_) | (go_at_call 45; (with_reducible refine (HRB.out _).mono ?_); rintro e w2 ⟨A, cc, rfl, -, hb2⟩; have hB' := below_go hB hb2))
            go_roundw
            case rel => exact ⟨n + 1, c, by omega, by have h := HCS.out; have h2 := HCC.out; omega, by go_num, rfl, hB'⟩
            case measure => (simp [intOf]; try omega)
        exact AllReadyH.nil
      exact AllReadyH.nil
    · obtain rfl : n = 625 := by omega
      have HC : Hid (c = N) := hide (by rw [HCC.out, HN.out])
      go_wp2
      go_ret2
      exact ⟨by rw [← HC.out]; rfl, hB⟩

set_option maxHeartbeats 8000000 in
set_option maxRecDepth 100000 in
theorem cim5 (w : World) : Calls Try.prog 12 #[.int .i64 5] w fun e w' => e = .returned (.tuple #[.int .i64 (cntI (rN 216 36 6) 1296 : Nat), .bool true]) ∧ Below w.heap.size w w' := by
  have hin : inB 5 0 6 = true := by decide
  obtain ⟨N, hN⟩ : ∃ N, N = cntI (rN 216 36 6) 1296 := ⟨_, rfl⟩
  rw [← hN]
  have HN := hide hN
  clear hN
  go_enter Try.func12, Try.ntmps12
  go_wp2_with (go_at_call 48; (with_reducible refine (in_any _ _ _ _).mono ?_); rintro e w' ⟨rfl, rfl⟩; (try rw [hin]))
  go_loopw [4, 20] (fun v4 v20 wr => ∃ (n c : Nat), n ≤ 1296 ∧ c = cntI (rN 216 36 6) n ∧ v20 = .int .i64 n ∧ v4 = .int .i64 c ∧ Below w.heap.size w wr) (fun _ v20 _ => 1296 - (intOf v20).toNat)
  case atStart => exact ⟨0, 0, by omega, rfl, rfl, rfl, (by repeat (first | (with_reducible exact Below.refl _ _) | (with_reducible assumption) | (with_reducible refine below_go ?_ (by with_reducible assumption)) | (with_reducible refine below_new ?_ _) | ((with_reducible refine below_put ?_ ?_ _); rotate_left; (dsimp only; omega)) | (with_reducible refine Below.drew ?_) | (with_reducible refine below_dn ?_ _)))⟩
  case round =>
    obtain ⟨n, c, hn, hc, rfl, rfl, hB⟩ := hrel
    have a0 : (0 : Int) ≤ n := by omega
    have hcl : c ≤ n := hc ▸ cntI_le _ n
    have HCC := hide hc
    clear hc
    by_cases hlt : n < 1296
    · have a1 : (n : Int) < 1296 := by omega
      have k2 : IntKind.i64.wrap 6 = 6 := by kernel_rfl
      have k3 : IntKind.i64.wrap 36 = 36 := by kernel_rfl
      have k4 : IntKind.i64.wrap 216 = 216 := by kernel_rfl
      have k5 : IntKind.i64.wrap 1296 = 1296 := by kernel_rfl
      have s0 : IntKind.i64.wrap ((n : Int) / 216) = (n : Int) / 216 := IntWalk.i64_in _ (by omega)
      have s1 : IntKind.i64.wrap ((n : Int) / 36) = (n : Int) / 36 := IntWalk.i64_in _ (by omega)
      have s2 : ((n : Int) / 36).tmod 6 = (n : Int) / 36 % 6 := Int.tmod_eq_emod_of_nonneg (by omega)
      have s3 : IntKind.i64.wrap ((n : Int) / 6) = (n : Int) / 6 := IntWalk.i64_in _ (by omega)
      have s4 : ((n : Int) / 6).tmod 6 = (n : Int) / 6 % 6 := Int.tmod_eq_emod_of_nonneg (by omega)
      have s5 : (n : Int).tmod 6 = (n : Int) % 6 := Int.tmod_eq_emod_of_nonneg (by omega)
      go_wp2_with fail
      refine wp_region_noPanic ?_
      refine wp_region_held_drew (S := (fun _ => True)) (by kernel_rfl) ?hS016 (fun hHeld => ?_)
      case hS016 => exact trivial
      have hB' : Below w.heap.size w (World.drew _) := Below.drew hB
      generalize hWW : World.drew _ = wx at *; clear hWW
      clear hB; have hB := hB'; clear hB'
      refine take_d (i := 0) (some 23) (v := ?_) rfl rfl (by kernel_rfl) (by kernel_rfl) (by kernel_rfl) (fun _ _ _ h => h) (Or.inl ⟨by rfl, ?_⟩) (by assumption) ?_
      rotate_left; (intro w hSw; clear hSw; go_simp; try with_reducible rfl)
      all_goals (try simp only [Act.put, List.setIfInBounds_toArray, List.set_cons_zero, List.set_cons_succ])
      refine take_d (i := 1) (some 24) (v := ?_) rfl rfl (by kernel_rfl) (by kernel_rfl) (by kernel_rfl) (fun _ _ _ h => h) (Or.inl ⟨by rfl, ?_⟩) (by assumption) ?_
      rotate_left; (intro w hSw; clear hSw; go_simp; try with_reducible rfl)
      all_goals (try simp only [Act.put, List.setIfInBounds_toArray, List.set_cons_zero, List.set_cons_succ])
      refine take_d (i := 2) (some 25) (v := ?_) rfl rfl (by kernel_rfl) (by kernel_rfl) (by kernel_rfl) (fun _ _ _ h => h) (Or.inl ⟨by rfl, ?_⟩) (by assumption) ?_
      rotate_left; (intro w hSw; clear hSw; go_simp; try with_reducible rfl)
      all_goals (try simp only [Act.put, List.setIfInBounds_toArray, List.set_cons_zero, List.set_cons_succ])
      refine take_d (i := 3) (some 26) (v := ?_) rfl rfl (by kernel_rfl) (by kernel_rfl) (by kernel_rfl) (fun _ _ _ h => h) (Or.inl ⟨by rfl, ?_⟩) (by assumption) ?_
      rotate_left; (intro w hSw; clear hSw; go_simp; try with_reducible rfl)
      all_goals (try simp only [Act.put, List.setIfInBounds_toArray, List.set_cons_zero, List.set_cons_succ])
      refine take_d (i := 4) (some 27) (v := ?_) rfl rfl (by kernel_rfl) (by kernel_rfl) (by kernel_rfl) (fun _ _ _ h => h) (Or.inl ⟨by rfl, ?_⟩) (by assumption) ?_
      rotate_left; (intro w hSw; clear hSw; go_simp; try with_reducible rfl)
      all_goals (try simp only [Act.put, List.setIfInBounds_toArray, List.set_cons_zero, List.set_cons_succ])
      refine take_d (i := 5) (some 28) (v := ?_) rfl rfl (by kernel_rfl) (by kernel_rfl) (by kernel_rfl) (fun _ _ _ h => h) (Or.inl ⟨by rfl, ?_⟩) (by assumption) ?_
      rotate_left; (intro w hSw; clear hSw; go_simp; try with_reducible rfl)
      all_goals (try simp only [Act.put, List.setIfInBounds_toArray, List.set_cons_zero, List.set_cons_succ])
      refine take_d (i := 6) (some 29) (v := ?_) rfl rfl (by kernel_rfl) (by kernel_rfl) (by kernel_rfl) (fun _ _ _ h => h) (Or.inl ⟨by rfl, ?_⟩) (by assumption) ?_
      rotate_left; (intro w hSw; clear hSw; go_simp; try with_reducible rfl)
      all_goals (try simp only [Act.put, List.setIfInBounds_toArray, List.set_cons_zero, List.set_cons_succ])
      refine take_d (i := 7) (some 30) (v := ?_) rfl rfl (by kernel_rfl) (by kernel_rfl) (by kernel_rfl) (fun _ _ _ h => h) (Or.inl ⟨by rfl, ?_⟩) (by assumption) ?_
      rotate_left; (intro w hSw; clear hSw; go_simp; try with_reducible rfl)
      all_goals (try simp only [Act.put, List.setIfInBounds_toArray, List.set_cons_zero, List.set_cons_succ])
      refine take_d (i := 8) (some 31) (v := ?_) rfl rfl (by kernel_rfl) (by kernel_rfl) (by kernel_rfl) (fun _ _ _ h => h) (Or.inl ⟨by rfl, ?_⟩) (by assumption) ?_
      rotate_left; (intro w hSw; clear hSw; go_simp; try with_reducible rfl)
      all_goals (try simp only [Act.put, List.setIfInBounds_toArray, List.set_cons_zero, List.set_cons_succ])
      refine take_d (i := 9) (some 32) (v := ?_) rfl rfl (by kernel_rfl) (by kernel_rfl) (by kernel_rfl) (fun _ _ _ h => h) (Or.inl ⟨by rfl, ?_⟩) (by assumption) ?_
      rotate_left; (intro w hSw; clear hSw; go_simp; try with_reducible rfl)
      all_goals (try simp only [Act.put, List.setIfInBounds_toArray, List.set_cons_zero, List.set_cons_succ])
      refine take_d (i := 10) (some 33) (v := ?_) rfl rfl (by kernel_rfl) (by kernel_rfl) (by kernel_rfl) (fun _ _ _ h => h) (Or.inl ⟨by rfl, ?_⟩) (by assumption) ?_
      rotate_left; (intro w hSw; clear hSw; go_simp; try with_reducible rfl)
      all_goals (try simp only [Act.put, List.setIfInBounds_toArray, List.set_cons_zero, List.set_cons_succ])
      refine take_d (i := 11) (some 34) (v := ?_) rfl rfl (by kernel_rfl) (by kernel_rfl) (by kernel_rfl) (fun _ _ _ h => h) (Or.inl ⟨by rfl, ?_⟩) (by assumption) ?_
      rotate_left; (intro w hSw; clear hSw; go_simp; try with_reducible rfl)
      all_goals (try simp only [Act.put, List.setIfInBounds_toArray, List.set_cons_zero, List.set_cons_succ])
      refine take_d (i := 12) (some 35) (v := ?_) rfl rfl (by kernel_rfl) (by kernel_rfl) (by kernel_rfl) (fun _ _ _ h => h) (Or.inl ⟨by rfl, ?_⟩) (by assumption) ?_
      rotate_left; (intro w hSw; clear hSw; go_simp; try with_reducible rfl)
      all_goals (try simp only [Act.put, List.setIfInBounds_toArray, List.set_cons_zero, List.set_cons_succ])
      refine take_d (i := 13) (some 36) (v := ?_) rfl rfl (by kernel_rfl) (by kernel_rfl) (by kernel_rfl) (fun _ _ _ h => h) (Or.inl ⟨by rfl, ?_⟩) (by assumption) ?_
      rotate_left; (intro w hSw; clear hSw; go_simp; try with_reducible rfl)
      all_goals (try simp only [Act.put, List.setIfInBounds_toArray, List.set_cons_zero, List.set_cons_succ])
      refine take_d (i := 14) (some 37) (v := ?_) rfl rfl (by kernel_rfl) (by kernel_rfl) (by kernel_rfl) (fun _ _ _ h => h) (Or.inl ⟨by rfl, ?_⟩) (by assumption) ?_
      rotate_left; (intro w hSw; clear hSw; go_simp; try with_reducible rfl)
      all_goals (try simp only [Act.put, List.setIfInBounds_toArray, List.set_cons_zero, List.set_cons_succ])
      refine take_d (i := 15) (some 38) (v := ?_) rfl rfl (by kernel_rfl) (by kernel_rfl) (by kernel_rfl) (fun _ _ _ h => h) (Or.inl ⟨by rfl, ?_⟩) (by assumption) ?_
      rotate_left; (intro w hSw; clear hSw; go_simp; try with_reducible rfl)
      all_goals (try simp only [Act.put, List.setIfInBounds_toArray, List.set_cons_zero, List.set_cons_succ])
      refine take_d (i := 16) (some 39) (v := ?_) rfl rfl (by kernel_rfl) (by kernel_rfl) (by kernel_rfl) (fun _ _ _ h => h) (Or.inl ⟨by rfl, ?_⟩) (by assumption) ?_
      rotate_left; (intro w hSw; clear hSw; go_simp; try with_reducible rfl)
      all_goals (try simp only [Act.put, List.setIfInBounds_toArray, List.set_cons_zero, List.set_cons_succ])
      refine take_d (i := 17) (some 40) (v := ?_) rfl rfl (by kernel_rfl) (by kernel_rfl) (by kernel_rfl) (fun _ _ _ h => h) (Or.inl ⟨by rfl, ?_⟩) (by assumption) ?_
      rotate_left; (intro w hSw; clear hSw; go_simp; try with_reducible rfl)
      all_goals (try simp only [Act.put, List.setIfInBounds_toArray, List.set_cons_zero, List.set_cons_succ])
      refine take_d (i := 18) (some 41) (v := ?_) rfl rfl (by kernel_rfl) (by kernel_rfl) (by kernel_rfl) (fun _ _ _ h => h) (Or.inl ⟨by rfl, ?_⟩) (by assumption) ?_
      rotate_left; (intro w hSw; clear hSw; go_simp; try with_reducible rfl)
      all_goals (try simp only [Act.put, List.setIfInBounds_toArray, List.set_cons_zero, List.set_cons_succ])
      refine take_d (i := 19) (some 42) (v := ?_) rfl rfl (by kernel_rfl) (by kernel_rfl) (by kernel_rfl) (fun _ _ _ h => h) (Or.inl ⟨by rfl, ?_⟩) (by assumption) ?_
      rotate_left; (intro w hSw; clear hSw; go_simp; try with_reducible rfl)
      all_goals (try simp only [Act.put, List.setIfInBounds_toArray, List.set_cons_zero, List.set_cons_succ])
      refine take_d (i := 20) (some 43) (v := ?_) rfl rfl (by kernel_rfl) (by kernel_rfl) (by kernel_rfl) (fun _ _ _ h => h) (Or.inl ⟨by rfl, ?_⟩) (by assumption) ?_
      rotate_left; (intro w hSw; clear hSw; go_simp; try with_reducible rfl)
      all_goals (try simp only [Act.put, List.setIfInBounds_toArray, List.set_cons_zero, List.set_cons_succ])
      refine take_d (i := 21) (some 44) (v := ?_) rfl rfl (by kernel_rfl) (by kernel_rfl) (by kernel_rfl) (fun _ _ _ h => h) (Or.inl ⟨by rfl, ?_⟩) (by assumption) ?_
      rotate_left; (intro w hSw; clear hSw; go_simp; try with_reducible rfl)
      all_goals (try simp only [Act.put, List.setIfInBounds_toArray, List.set_cons_zero, List.set_cons_succ])
      refine take_d (i := 22) (some 45) (v := ?_) rfl rfl (by kernel_rfl) (by kernel_rfl) (by kernel_rfl) (fun _ _ _ h => h) (Or.inl ⟨by rfl, ?_⟩) (by assumption) ?_
      rotate_left; (intro w hSw; clear hSw; go_simp; try with_reducible rfl)
      all_goals (try simp only [Act.put, List.setIfInBounds_toArray, List.set_cons_zero, List.set_cons_succ])
      refine wpAnyH_ready (rs := [23]) (by kernel_rfl) (by simp) ?_
      refine AllReadyH.cons (o := _) rfl (fun K hK => ?_) ?_
      ·
        go_simp
        generalize hW : World.alloc _ _ = w2
        have hB' : Below w.heap.size w w2 := by (rw [← hW]; exact below_new hB _)
        have jn := Has.newat (n := 4) hW rfl
        clear hW; have zn := hB.size; clear hB; have hB := hB'; clear hB'
        generalize hS : (World.heap wx).size = Bn at *
        clear hS; generalize hWW : w2 = wx at *; clear hWW
        refine hK.out _ _ ?hS17 (fun hHeld => ?_)
        case hS17 => exact trivial
        clear hK K
        (try simp only [Act.put, List.setIfInBounds_toArray, List.set_cons_zero, List.set_cons_succ])
        refine wpAnyH_ready (rs := [24]) (by kernel_rfl) (by simp) ?_
        refine AllReadyH.cons (o := _) rfl (fun K hK => ?_) ?_
        ·
          rw [if_pos (by rfl)]
          refine wp_store_RwF _ _ rfl _ (rN 216 36 6 n) rfl rfl rfl jn ?_
          intro w3 ho3 hn3
          have hB' : Below w.heap.size w w3 := below_only hB ho3 (by omega)
          clear jn ho3; have jn := hn3; clear hn3; clear hB; have hB := hB'; clear hB'
          generalize hWW : w3 = wx at *; clear hWW
          refine hK.out _ _ ?hS18 (fun hHeld => ?_)
          case hS18 => exact trivial
          clear hK K
          (try simp only [Act.put, List.setIfInBounds_toArray, List.set_cons_zero, List.set_cons_succ])
          refine wpAnyH_done (by kernel_rfl) ?_ _
          refine NoPanic.normal ?_
          have hrn := rN_in (b3 := 216) (b2 := 36) (b := 6) (n := n) (by decide) (by decide) (by omega)
          have HCS : Hid (cntI (rN 216 36 6) (n + 1) = cntI (rN 216 36 6) n + if 0 < (rbL (rN 216 36 6 n)).length then 1 else 0) := hide rfl
          generalize rN 216 36 6 n = F at *
          have HRB := hide (rowsBefore_any F hrn)
          generalize (rbL F).length = q at *
          by_cases hq : 0 < q
          · rw [if_pos hq] at HCS
            have hqi : (0 : Int) < q := by omega
            clear hrn
            go_wp2_with (first | (refine load_A4 rfl _ rfl _ _ rfl jn (by omega) ?_) | (go_at_call 45; (with_reducible refine (HRB.out _).mono ?_); rintro e w2 ⟨A, cc, rfl, -, hb2⟩; have hB' := below_go hB hb2))
            go_roundw
            case rel => exact ⟨n + 1, c + 1, by omega, by have h := HCS.out; have h2 := HCC.out; omega, by go_num, by go_num, hB'⟩
            case measure => (simp [intOf]; try omega)
          · rw [if_neg hq] at HCS
            have hqi : ¬ (0 : Int) < q := by omega
            clear hrn
            go_wp2_with (first | (refine load_A4 rfl _ rfl _ _ rfl jn (by omega) ?_) | (go_at_call 45; (with_reducible refine (HRB.out _).mono ?_); rintro e w2 ⟨A, cc, rfl, -, hb2⟩; have hB' := below_go hB hb2))
            go_roundw
            case rel => exact ⟨n + 1, c, by omega, by have h := HCS.out; have h2 := HCC.out; omega, by go_num, rfl, hB'⟩
            case measure => (simp [intOf]; try omega)
        exact AllReadyH.nil
      exact AllReadyH.nil
    · obtain rfl : n = 1296 := by omega
      have HC : Hid (c = N) := hide (by rw [HCC.out, HN.out])
      go_wp2
      go_ret2
      exact ⟨by rw [← HC.out]; rfl, hB⟩

set_option maxHeartbeats 8000000 in
set_option maxRecDepth 100000 in
theorem cim6 (w : World) : Calls Try.prog 12 #[.int .i64 6] w fun e w' => e = .returned (.tuple #[.int .i64 (cntI (rN 343 49 7) 2401 : Nat), .bool true]) ∧ Below w.heap.size w w' := by
  have hin : inB 6 0 6 = true := by decide
  obtain ⟨N, hN⟩ : ∃ N, N = cntI (rN 343 49 7) 2401 := ⟨_, rfl⟩
  rw [← hN]
  have HN := hide hN
  clear hN
  go_enter Try.func12, Try.ntmps12
  go_wp2_with (go_at_call 48; (with_reducible refine (in_any _ _ _ _).mono ?_); rintro e w' ⟨rfl, rfl⟩; (try rw [hin]))
  go_loopw [4, 20] (fun v4 v20 wr => ∃ (n c : Nat), n ≤ 2401 ∧ c = cntI (rN 343 49 7) n ∧ v20 = .int .i64 n ∧ v4 = .int .i64 c ∧ Below w.heap.size w wr) (fun _ v20 _ => 2401 - (intOf v20).toNat)
  case atStart => exact ⟨0, 0, by omega, rfl, rfl, rfl, (by repeat (first | (with_reducible exact Below.refl _ _) | (with_reducible assumption) | (with_reducible refine below_go ?_ (by with_reducible assumption)) | (with_reducible refine below_new ?_ _) | ((with_reducible refine below_put ?_ ?_ _); rotate_left; (dsimp only; omega)) | (with_reducible refine Below.drew ?_) | (with_reducible refine below_dn ?_ _)))⟩
  case round =>
    obtain ⟨n, c, hn, hc, rfl, rfl, hB⟩ := hrel
    have a0 : (0 : Int) ≤ n := by omega
    have hcl : c ≤ n := hc ▸ cntI_le _ n
    have HCC := hide hc
    clear hc
    by_cases hlt : n < 2401
    · have a1 : (n : Int) < 2401 := by omega
      have k2 : IntKind.i64.wrap 7 = 7 := by kernel_rfl
      have k3 : IntKind.i64.wrap 49 = 49 := by kernel_rfl
      have k4 : IntKind.i64.wrap 343 = 343 := by kernel_rfl
      have k5 : IntKind.i64.wrap 2401 = 2401 := by kernel_rfl
      have s0 : IntKind.i64.wrap ((n : Int) / 343) = (n : Int) / 343 := IntWalk.i64_in _ (by omega)
      have s1 : IntKind.i64.wrap ((n : Int) / 49) = (n : Int) / 49 := IntWalk.i64_in _ (by omega)
      have s2 : ((n : Int) / 49).tmod 7 = (n : Int) / 49 % 7 := Int.tmod_eq_emod_of_nonneg (by omega)
      have s3 : IntKind.i64.wrap ((n : Int) / 7) = (n : Int) / 7 := IntWalk.i64_in _ (by omega)
      have s4 : ((n : Int) / 7).tmod 7 = (n : Int) / 7 % 7 := Int.tmod_eq_emod_of_nonneg (by omega)
      have s5 : (n : Int).tmod 7 = (n : Int) % 7 := Int.tmod_eq_emod_of_nonneg (by omega)
      go_wp2_with fail
      refine wp_region_noPanic ?_
      refine wp_region_held_drew (S := (fun _ => True)) (by kernel_rfl) ?hS019 (fun hHeld => ?_)
      case hS019 => exact trivial
      have hB' : Below w.heap.size w (World.drew _) := Below.drew hB
      generalize hWW : World.drew _ = wx at *; clear hWW
      clear hB; have hB := hB'; clear hB'
      refine take_d (i := 0) (some 23) (v := ?_) rfl rfl (by kernel_rfl) (by kernel_rfl) (by kernel_rfl) (fun _ _ _ h => h) (Or.inl ⟨by rfl, ?_⟩) (by assumption) ?_
      rotate_left; (intro w hSw; clear hSw; go_simp; try with_reducible rfl)
      all_goals (try simp only [Act.put, List.setIfInBounds_toArray, List.set_cons_zero, List.set_cons_succ])
      refine take_d (i := 1) (some 24) (v := ?_) rfl rfl (by kernel_rfl) (by kernel_rfl) (by kernel_rfl) (fun _ _ _ h => h) (Or.inl ⟨by rfl, ?_⟩) (by assumption) ?_
      rotate_left; (intro w hSw; clear hSw; go_simp; try with_reducible rfl)
      all_goals (try simp only [Act.put, List.setIfInBounds_toArray, List.set_cons_zero, List.set_cons_succ])
      refine take_d (i := 2) (some 25) (v := ?_) rfl rfl (by kernel_rfl) (by kernel_rfl) (by kernel_rfl) (fun _ _ _ h => h) (Or.inl ⟨by rfl, ?_⟩) (by assumption) ?_
      rotate_left; (intro w hSw; clear hSw; go_simp; try with_reducible rfl)
      all_goals (try simp only [Act.put, List.setIfInBounds_toArray, List.set_cons_zero, List.set_cons_succ])
      refine take_d (i := 3) (some 26) (v := ?_) rfl rfl (by kernel_rfl) (by kernel_rfl) (by kernel_rfl) (fun _ _ _ h => h) (Or.inl ⟨by rfl, ?_⟩) (by assumption) ?_
      rotate_left; (intro w hSw; clear hSw; go_simp; try with_reducible rfl)
      all_goals (try simp only [Act.put, List.setIfInBounds_toArray, List.set_cons_zero, List.set_cons_succ])
      refine take_d (i := 4) (some 27) (v := ?_) rfl rfl (by kernel_rfl) (by kernel_rfl) (by kernel_rfl) (fun _ _ _ h => h) (Or.inl ⟨by rfl, ?_⟩) (by assumption) ?_
      rotate_left; (intro w hSw; clear hSw; go_simp; try with_reducible rfl)
      all_goals (try simp only [Act.put, List.setIfInBounds_toArray, List.set_cons_zero, List.set_cons_succ])
      refine take_d (i := 5) (some 28) (v := ?_) rfl rfl (by kernel_rfl) (by kernel_rfl) (by kernel_rfl) (fun _ _ _ h => h) (Or.inl ⟨by rfl, ?_⟩) (by assumption) ?_
      rotate_left; (intro w hSw; clear hSw; go_simp; try with_reducible rfl)
      all_goals (try simp only [Act.put, List.setIfInBounds_toArray, List.set_cons_zero, List.set_cons_succ])
      refine take_d (i := 6) (some 29) (v := ?_) rfl rfl (by kernel_rfl) (by kernel_rfl) (by kernel_rfl) (fun _ _ _ h => h) (Or.inl ⟨by rfl, ?_⟩) (by assumption) ?_
      rotate_left; (intro w hSw; clear hSw; go_simp; try with_reducible rfl)
      all_goals (try simp only [Act.put, List.setIfInBounds_toArray, List.set_cons_zero, List.set_cons_succ])
      refine take_d (i := 7) (some 30) (v := ?_) rfl rfl (by kernel_rfl) (by kernel_rfl) (by kernel_rfl) (fun _ _ _ h => h) (Or.inl ⟨by rfl, ?_⟩) (by assumption) ?_
      rotate_left; (intro w hSw; clear hSw; go_simp; try with_reducible rfl)
      all_goals (try simp only [Act.put, List.setIfInBounds_toArray, List.set_cons_zero, List.set_cons_succ])
      refine take_d (i := 8) (some 31) (v := ?_) rfl rfl (by kernel_rfl) (by kernel_rfl) (by kernel_rfl) (fun _ _ _ h => h) (Or.inl ⟨by rfl, ?_⟩) (by assumption) ?_
      rotate_left; (intro w hSw; clear hSw; go_simp; try with_reducible rfl)
      all_goals (try simp only [Act.put, List.setIfInBounds_toArray, List.set_cons_zero, List.set_cons_succ])
      refine take_d (i := 9) (some 32) (v := ?_) rfl rfl (by kernel_rfl) (by kernel_rfl) (by kernel_rfl) (fun _ _ _ h => h) (Or.inl ⟨by rfl, ?_⟩) (by assumption) ?_
      rotate_left; (intro w hSw; clear hSw; go_simp; try with_reducible rfl)
      all_goals (try simp only [Act.put, List.setIfInBounds_toArray, List.set_cons_zero, List.set_cons_succ])
      refine take_d (i := 10) (some 33) (v := ?_) rfl rfl (by kernel_rfl) (by kernel_rfl) (by kernel_rfl) (fun _ _ _ h => h) (Or.inl ⟨by rfl, ?_⟩) (by assumption) ?_
      rotate_left; (intro w hSw; clear hSw; go_simp; try with_reducible rfl)
      all_goals (try simp only [Act.put, List.setIfInBounds_toArray, List.set_cons_zero, List.set_cons_succ])
      refine take_d (i := 11) (some 34) (v := ?_) rfl rfl (by kernel_rfl) (by kernel_rfl) (by kernel_rfl) (fun _ _ _ h => h) (Or.inl ⟨by rfl, ?_⟩) (by assumption) ?_
      rotate_left; (intro w hSw; clear hSw; go_simp; try with_reducible rfl)
      all_goals (try simp only [Act.put, List.setIfInBounds_toArray, List.set_cons_zero, List.set_cons_succ])
      refine take_d (i := 12) (some 35) (v := ?_) rfl rfl (by kernel_rfl) (by kernel_rfl) (by kernel_rfl) (fun _ _ _ h => h) (Or.inl ⟨by rfl, ?_⟩) (by assumption) ?_
      rotate_left; (intro w hSw; clear hSw; go_simp; try with_reducible rfl)
      all_goals (try simp only [Act.put, List.setIfInBounds_toArray, List.set_cons_zero, List.set_cons_succ])
      refine take_d (i := 13) (some 36) (v := ?_) rfl rfl (by kernel_rfl) (by kernel_rfl) (by kernel_rfl) (fun _ _ _ h => h) (Or.inl ⟨by rfl, ?_⟩) (by assumption) ?_
      rotate_left; (intro w hSw; clear hSw; go_simp; try with_reducible rfl)
      all_goals (try simp only [Act.put, List.setIfInBounds_toArray, List.set_cons_zero, List.set_cons_succ])
      refine take_d (i := 14) (some 37) (v := ?_) rfl rfl (by kernel_rfl) (by kernel_rfl) (by kernel_rfl) (fun _ _ _ h => h) (Or.inl ⟨by rfl, ?_⟩) (by assumption) ?_
      rotate_left; (intro w hSw; clear hSw; go_simp; try with_reducible rfl)
      all_goals (try simp only [Act.put, List.setIfInBounds_toArray, List.set_cons_zero, List.set_cons_succ])
      refine take_d (i := 15) (some 38) (v := ?_) rfl rfl (by kernel_rfl) (by kernel_rfl) (by kernel_rfl) (fun _ _ _ h => h) (Or.inl ⟨by rfl, ?_⟩) (by assumption) ?_
      rotate_left; (intro w hSw; clear hSw; go_simp; try with_reducible rfl)
      all_goals (try simp only [Act.put, List.setIfInBounds_toArray, List.set_cons_zero, List.set_cons_succ])
      refine take_d (i := 16) (some 39) (v := ?_) rfl rfl (by kernel_rfl) (by kernel_rfl) (by kernel_rfl) (fun _ _ _ h => h) (Or.inl ⟨by rfl, ?_⟩) (by assumption) ?_
      rotate_left; (intro w hSw; clear hSw; go_simp; try with_reducible rfl)
      all_goals (try simp only [Act.put, List.setIfInBounds_toArray, List.set_cons_zero, List.set_cons_succ])
      refine take_d (i := 17) (some 40) (v := ?_) rfl rfl (by kernel_rfl) (by kernel_rfl) (by kernel_rfl) (fun _ _ _ h => h) (Or.inl ⟨by rfl, ?_⟩) (by assumption) ?_
      rotate_left; (intro w hSw; clear hSw; go_simp; try with_reducible rfl)
      all_goals (try simp only [Act.put, List.setIfInBounds_toArray, List.set_cons_zero, List.set_cons_succ])
      refine take_d (i := 18) (some 41) (v := ?_) rfl rfl (by kernel_rfl) (by kernel_rfl) (by kernel_rfl) (fun _ _ _ h => h) (Or.inl ⟨by rfl, ?_⟩) (by assumption) ?_
      rotate_left; (intro w hSw; clear hSw; go_simp; try with_reducible rfl)
      all_goals (try simp only [Act.put, List.setIfInBounds_toArray, List.set_cons_zero, List.set_cons_succ])
      refine take_d (i := 19) (some 42) (v := ?_) rfl rfl (by kernel_rfl) (by kernel_rfl) (by kernel_rfl) (fun _ _ _ h => h) (Or.inl ⟨by rfl, ?_⟩) (by assumption) ?_
      rotate_left; (intro w hSw; clear hSw; go_simp; try with_reducible rfl)
      all_goals (try simp only [Act.put, List.setIfInBounds_toArray, List.set_cons_zero, List.set_cons_succ])
      refine take_d (i := 20) (some 43) (v := ?_) rfl rfl (by kernel_rfl) (by kernel_rfl) (by kernel_rfl) (fun _ _ _ h => h) (Or.inl ⟨by rfl, ?_⟩) (by assumption) ?_
      rotate_left; (intro w hSw; clear hSw; go_simp; try with_reducible rfl)
      all_goals (try simp only [Act.put, List.setIfInBounds_toArray, List.set_cons_zero, List.set_cons_succ])
      refine take_d (i := 21) (some 44) (v := ?_) rfl rfl (by kernel_rfl) (by kernel_rfl) (by kernel_rfl) (fun _ _ _ h => h) (Or.inl ⟨by rfl, ?_⟩) (by assumption) ?_
      rotate_left; (intro w hSw; clear hSw; go_simp; try with_reducible rfl)
      all_goals (try simp only [Act.put, List.setIfInBounds_toArray, List.set_cons_zero, List.set_cons_succ])
      refine take_d (i := 22) (some 45) (v := ?_) rfl rfl (by kernel_rfl) (by kernel_rfl) (by kernel_rfl) (fun _ _ _ h => h) (Or.inl ⟨by rfl, ?_⟩) (by assumption) ?_
      rotate_left; (intro w hSw; clear hSw; go_simp; try with_reducible rfl)
      all_goals (try simp only [Act.put, List.setIfInBounds_toArray, List.set_cons_zero, List.set_cons_succ])
      refine wpAnyH_ready (rs := [23]) (by kernel_rfl) (by simp) ?_
      refine AllReadyH.cons (o := _) rfl (fun K hK => ?_) ?_
      ·
        go_simp
        generalize hW : World.alloc _ _ = w2
        have hB' : Below w.heap.size w w2 := by (rw [← hW]; exact below_new hB _)
        have jn := Has.newat (n := 4) hW rfl
        clear hW; have zn := hB.size; clear hB; have hB := hB'; clear hB'
        generalize hS : (World.heap wx).size = Bn at *
        clear hS; generalize hWW : w2 = wx at *; clear hWW
        refine hK.out _ _ ?hS20 (fun hHeld => ?_)
        case hS20 => exact trivial
        clear hK K
        (try simp only [Act.put, List.setIfInBounds_toArray, List.set_cons_zero, List.set_cons_succ])
        refine wpAnyH_ready (rs := [24]) (by kernel_rfl) (by simp) ?_
        refine AllReadyH.cons (o := _) rfl (fun K hK => ?_) ?_
        ·
          rw [if_pos (by rfl)]
          refine wp_store_RwF _ _ rfl _ (rN 343 49 7 n) rfl rfl rfl jn ?_
          intro w3 ho3 hn3
          have hB' : Below w.heap.size w w3 := below_only hB ho3 (by omega)
          clear jn ho3; have jn := hn3; clear hn3; clear hB; have hB := hB'; clear hB'
          generalize hWW : w3 = wx at *; clear hWW
          refine hK.out _ _ ?hS21 (fun hHeld => ?_)
          case hS21 => exact trivial
          clear hK K
          (try simp only [Act.put, List.setIfInBounds_toArray, List.set_cons_zero, List.set_cons_succ])
          refine wpAnyH_done (by kernel_rfl) ?_ _
          refine NoPanic.normal ?_
          have hrn := rN_in (b3 := 343) (b2 := 49) (b := 7) (n := n) (by decide) (by decide) (by omega)
          have HCS : Hid (cntI (rN 343 49 7) (n + 1) = cntI (rN 343 49 7) n + if 0 < (rbL (rN 343 49 7 n)).length then 1 else 0) := hide rfl
          generalize rN 343 49 7 n = F at *
          have HRB := hide (rowsBefore_any F hrn)
          generalize (rbL F).length = q at *
          by_cases hq : 0 < q
          · rw [if_pos hq] at HCS
            have hqi : (0 : Int) < q := by omega
            clear hrn
            go_wp2_with (first | (refine load_A4 rfl _ rfl _ _ rfl jn (by omega) ?_) | (go_at_call 45; (with_reducible refine (HRB.out _).mono ?_); rintro e w2 ⟨A, cc, rfl, -, hb2⟩; have hB' := below_go hB hb2))
            go_roundw
            case rel => exact ⟨n + 1, c + 1, by omega, by have h := HCS.out; have h2 := HCC.out; omega, by go_num, by go_num, hB'⟩
            case measure => (simp [intOf]; try omega)
          · rw [if_neg hq] at HCS
            have hqi : ¬ (0 : Int) < q := by omega
            clear hrn
            go_wp2_with (first | (refine load_A4 rfl _ rfl _ _ rfl jn (by omega) ?_) | (go_at_call 45; (with_reducible refine (HRB.out _).mono ?_); rintro e w2 ⟨A, cc, rfl, -, hb2⟩; have hB' := below_go hB hb2))
            go_roundw
            case rel => exact ⟨n + 1, c, by omega, by have h := HCS.out; have h2 := HCC.out; omega, by go_num, rfl, hB'⟩
            case measure => (simp [intOf]; try omega)
        exact AllReadyH.nil
      exact AllReadyH.nil
    · obtain rfl : n = 2401 := by omega
      have HC : Hid (c = N) := hide (by rw [HCC.out, HN.out])
      go_wp2
      go_ret2
      exact ⟨by rw [← HC.out]; rfl, hB⟩

theorem countImages_any (z : Int) (w : World) : Calls Try.prog 12 #[.int .i64 z] w fun e w' => e = .returned (.tuple #[.int .i64 (if inB z 0 6 = true then cimN z else 0), .bool (inB z 0 6)]) ∧ Below w.heap.size w w' := by
  by_cases hz : 0 ≤ z ∧ z ≤ 6
  · rcases (by omega : z = 0 ∨ z = 1 ∨ z = 2 ∨ z = 3 ∨ z = 4 ∨ z = 5 ∨ z = 6) with rfl | rfl | rfl | rfl | rfl | rfl | rfl
    · exact cim0 w
    · exact cim1 w
    · exact cim2 w
    · exact cim3 w
    · exact cim4 w
    · exact cim5 w
    · exact cim6 w
  · have hin : inB z 0 6 = false := decide_eq_false hz
    rw [hin, if_neg (by decide)]
    clear hz
    go_enter Try.func12, Try.ntmps12
    go_wp2_with (go_at_call 48; (with_reducible refine (in_any _ _ _ _).mono ?_); rintro e w' ⟨rfl, rfl⟩; (try rw [hin]))
    go_ret2
    exact ⟨rfl, (by repeat (first | (with_reducible exact Below.refl _ _) | (with_reducible assumption) | (with_reducible refine below_go ?_ (by with_reducible assumption)) | (with_reducible refine below_new ?_ _) | ((with_reducible refine below_put ?_ ?_ _); rotate_left; (dsimp only; omega)) | (with_reducible refine Below.drew ?_) | (with_reducible refine below_dn ?_ _)))⟩

end Go.Proofs.Ytmbmknpjmkgjlaa
