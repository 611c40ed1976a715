/- For every board of sixteen whole numbers and every cell and number the law FnExactPutTile answers true: the program's PutTile and the reference's agree. No condition. -/
import Derived.Test.YtjnmdhnckmmdnaaWrap
import Derived.Test.YtjnmdhnckmmdnaaBoard3
import Derived.Test.YtjnmdhnckmmdnaaBoard4
import Derived.Test.YtjnmdhnckmmdnaaBoard5
import Derived.Test.YtjnmdhnckmmdnaaTkF
import Derived.Test.YtjnmdhnckmmdnaaStc
import Derived.Test.YtjnmdhnckmmdnaaManyMath
import Derived.Deep.DeepCutAuto
set_option linter.unusedVariables false
namespace Go.Proofs.Ytjnmdhnckmmdnaa
open Go.ChangeShapes Go.WideShapes Go.ChangeAt Go.RowKit
open Go.ChangeMaps (open_string shut_string)

set_option maxHeartbeats 16000000 in
set_option maxRecDepth 100000 in
theorem fnExactPutTile.walk (x0 : Nat → Int) (b0 : Hid (∀ i, i < 16 → -9223372036854775808 ≤ x0 i ∧ x0 i ≤ 9223372036854775807)) (x1 : Nat → Int) (b1 : Hid (∀ i, i < 2 → -9223372036854775808 ≤ x1 i ∧ x1 i ≤ 9223372036854775807)) (x2 : Int) (b2 : -9223372036854775808 ≤ x2 ∧ x2 ≤ 9223372036854775807) (w : World) :
    Calls Try.prog 9 #[.agg #[.int .i64 (x0 0), .int .i64 (x0 1), .int .i64 (x0 2), .int .i64 (x0 3), .int .i64 (x0 4), .int .i64 (x0 5), .int .i64 (x0 6), .int .i64 (x0 7), .int .i64 (x0 8), .int .i64 (x0 9), .int .i64 (x0 10), .int .i64 (x0 11), .int .i64 (x0 12), .int .i64 (x0 13), .int .i64 (x0 14), .int .i64 (x0 15)], .agg #[.int .i64 (x1 0), .int .i64 (x1 1)], .int .i64 x2] w fun e w' => e = .returned (.bool true) ∧ Below w.heap.size w w' := by
  go_enter Try.func9, Try.ntmps9
  obtain ⟨F, ok, hF⟩ : ∃ F ok, PtIs x0 (x1 0) (x1 1) x2 F ok := ⟨_, _, rfl, rfl⟩
  clear b2
  generalize x1 0 = y0 at *
  generalize x1 1 = y1 at *
  clear b1
  go_upto_region 1 with (fail)
  generalize hW : (w.alloc _).alloc _ = w1
  have hB : Below w.heap.size w w1 := by (rw [← hW]; exact (by repeat (first | (with_reducible exact Below.refl _ _) | (with_reducible assumption) | (with_reducible refine below_go ?_ (by with_reducible assumption)) | (with_reducible refine below_new ?_ _) | ((with_reducible refine below_put ?_ ?_ _); rotate_left; (dsimp only; omega)) | (with_reducible refine Below.drew ?_) | (with_reducible refine below_dn ?_ _))))
  have hsz : Hid (w1.heap.size = w.heap.size + 1 + 1) := hide (by rw [← hW]; simp)
  have i0 : Has w1 (w.heap.size) 16 (fun o => .int .i64 (x0 o)) := by (rw [← hW]; repeat (first | (refine Has.new ?_ rfl; simp; done) | refine Has.alloc ?_ _))
  have ci0 := i0.1; have fi0 := i0.2.1; have zi0 := i0.2.2
  have i1 : Has w1 (w.heap.size + 1) 2 (fun o => if o = 0 then .int .i64 y0 else .int .i64 y1) := by (rw [← hW]; repeat (first | (refine Has.new ?_ rfl; simp; done) | refine Has.alloc ?_ _))
  have ci1 := i1.1; have fi1 := i1.2.1; have zi1 := i1.2.2
  clear hW
  clear ci0 fi0 ci1 fi1 hsz
  go_cut [7, 8] (fun v5 v7 wx => ∃ B : Nat, v5 = .pointer (some ⟨B, 0, none⟩) ∧ v7 = .bool ok ∧ w.heap.size + 1 < B ∧ Below w.heap.size w wx ∧ Has wx w.heap.size 16 (fun o => .int .i64 (x0 o)) ∧ Has wx (w.heap.size + 1) 2 (fun o => if o = 0 then .int .i64 y0 else .int .i64 y1) ∧ Has wx B 16 (fun o => .int .i64 (F o)))
  case first =>
    refine wp_region_noPanic ?_
    refine wp_region_held_drew (S := (fun w' => RB w.heap.size x0 w' ∧ R2 (w.heap.size + 1) (.int .i64 y0) (.int .i64 y1) w')) (by kernel_rfl) ?hS01 (fun hHeld => ?_)
    case hS01 => exact ⟨rb_of (Has.drew i0), r2_of (Has.drew i1)⟩
    have hB' : Below w.heap.size w (World.drew _) := Below.drew hB
    have i0' := Has.drew i0
    have i1' := Has.drew i1
    (try clear ci0); (try clear fi0)
    (try clear ci1); (try clear fi1)
    generalize hWW : World.drew _ = wx at *; clear hWW
    clear hB; have hB := hB'; clear hB'; clear i0 zi0; have i0 := i0'; clear i0'; have zi0 := i0.2.2; clear i1 zi1; have i1 := i1'; clear i1'; have zi1 := i1.2.2
    refine take_d (i := 0) (some 12) (oi := _) (v := _) rfl rfl (by kernel_rfl) (by kernel_rfl) (by kernel_rfl) (fun _ _ _ h => h) (yieldsIf_load_mid (by rfl) _ _ rfl _ _ rfl _ _ (fun w h => h.1.r) Try.underlying30 rfl (by kernel_rfl)) (by assumption) ?_
    all_goals (try simp only [Act.put, List.setIfInBounds_toArray, List.set_cons_zero, List.set_cons_succ])
    refine take_d (i := 2) (some 14) (oi := _) (v := _) rfl rfl (by kernel_rfl) (by kernel_rfl) (by kernel_rfl) (fun _ _ _ h => h) (yieldsIf_load_mid (by rfl) _ _ rfl _ _ rfl _ _ (fun w h => h.2.r) Try.underlying39 rfl (by kernel_rfl)) (by assumption) ?_
    all_goals (try simp only [Act.put, List.setIfInBounds_toArray, List.set_cons_zero, List.set_cons_succ])
    refine take_d (i := 4) (some 16) (v := ?_) rfl rfl (by kernel_rfl) (by kernel_rfl) (by kernel_rfl) (fun _ _ _ h => h) (Or.inl ⟨by rfl, ?_⟩) (by assumption) ?_
    rotate_left; (intro w hSw; clear hSw; go_simp; try with_reducible rfl)
    all_goals (try simp only [Act.put, List.setIfInBounds_toArray, List.set_cons_zero, List.set_cons_succ])
    refine wpAnyH_ready (rs := [1, 9]) (by kernel_rfl) (by simp) ?_
    refine AllReadyH.cons (o := _) rfl (fun K hK => ?_) ?_
    ·
      go_simp
      refine (toBoard_any _ _).mono ?_
      rintro e w2 ⟨rfl, hb2⟩
      (try go_wp2_with fail)
      have hB' : Below w.heap.size w w2 := below_go hB hb2
      have i0' := Has.call i0 hb2
      have i1' := Has.call i1 hb2
      clear hb2; clear hB; have hB := hB'; clear hB'; clear i0 zi0; have i0 := i0'; clear i0'; have zi0 := i0.2.2; clear i1 zi1; have i1 := i1'; clear i1'; have zi1 := i1.2.2
      generalize hWW : w2 = wx at *; clear hWW
      refine hK.out _ _ ?hS2 (fun hHeld => ?_)
      case hS2 => exact ⟨rb_of i0, r2_of i1⟩
      clear hK K
      (try simp only [Act.put, List.setIfInBounds_toArray, List.set_cons_zero, List.set_cons_succ])
      refine wpAnyH_ready (rs := [3, 9]) (by kernel_rfl) (by simp) ?_
      refine AllReadyH.cons (o := _) rfl (fun K hK => ?_) ?_
      ·
        go_simp
        refine (toIntA2_any _ _ _).mono ?_
        rintro e w2 ⟨rfl, hb2⟩
        (try go_wp2_with fail)
        have hB' : Below w.heap.size w w2 := below_go hB hb2
        have i0' := Has.call i0 hb2
        have i1' := Has.call i1 hb2
        clear hb2; clear hB; have hB := hB'; clear hB'; clear i0 zi0; have i0 := i0'; clear i0'; have zi0 := i0.2.2; clear i1 zi1; have i1 := i1'; clear i1'; have zi1 := i1.2.2
        generalize hWW : w2 = wx at *; clear hWW
        refine hK.out _ _ ?hS3 (fun hHeld => ?_)
        case hS3 => exact ⟨rb_of i0, r2_of i1⟩
        clear hK K
        (try simp only [Act.put, List.setIfInBounds_toArray, List.set_cons_zero, List.set_cons_succ])
        refine wpAnyH_ready (rs := [5, 9]) (by kernel_rfl) (by simp) ?_
        refine AllReadyH.cons (o := _) rfl (fun K hK => ?_) ?_
        ·
          go_simp
          refine (specPutTile_F _ _ _ _ _ _ hF _).mono ?_
          rintro e w2 ⟨rfl, hb2⟩
          (try go_wp2_with fail)
          have hB' : Below w.heap.size w w2 := below_go hB hb2
          have i0' := Has.call i0 hb2
          have i1' := Has.call i1 hb2
          clear hb2; clear hB; have hB := hB'; clear hB'; clear i0 zi0; have i0 := i0'; clear i0'; have zi0 := i0.2.2; clear i1 zi1; have i1 := i1'; clear i1'; have zi1 := i1.2.2
          generalize hWW : w2 = wx at *; clear hWW
          refine hK.out _ _ ?hS4 (fun hHeld => ?_)
          case hS4 => exact ⟨rb_of i0, r2_of i1⟩
          clear hK K
          (try simp only [Act.put, List.setIfInBounds_toArray, List.set_cons_zero, List.set_cons_succ])
          refine take_d (i := 6) (some 11) (v := ?_) rfl rfl (by kernel_rfl) (by kernel_rfl) (by kernel_rfl) (fun _ _ _ h => h) (Or.inl ⟨by rfl, ?_⟩) (by assumption) ?_
          rotate_left; (intro w hSw; clear hSw; go_simp; try with_reducible rfl)
          all_goals (try simp only [Act.put, List.setIfInBounds_toArray, List.set_cons_zero, List.set_cons_succ])
          refine take_d (i := 7) (some 18) (v := ?_) rfl rfl (by kernel_rfl) (by kernel_rfl) (by kernel_rfl) (fun _ _ _ h => h) (Or.inl ⟨by rfl, ?_⟩) (by assumption) ?_
          rotate_left; (intro w hSw; clear hSw; go_simp; try with_reducible rfl)
          all_goals (try simp only [Act.put, List.setIfInBounds_toArray, List.set_cons_zero, List.set_cons_succ])
          refine take_d (i := 8) (some 19) (v := ?_) rfl rfl (by kernel_rfl) (by kernel_rfl) (by kernel_rfl) (fun _ _ _ h => h) (Or.inl ⟨by rfl, ?_⟩) (by assumption) ?_
          rotate_left; (intro w hSw; clear hSw; go_simp; try with_reducible rfl)
          all_goals (try simp only [Act.put, List.setIfInBounds_toArray, List.set_cons_zero, List.set_cons_succ])
          refine wpAnyH_ready (rs := [9]) (by kernel_rfl) (by simp) ?_
          refine AllReadyH.cons (o := _) rfl (fun K hK => ?_) ?_
          ·
            go_simp
            generalize hW : World.alloc _ _ = w2
            have hB' : Below w.heap.size w w2 := by (rw [← hW]; exact below_new hB _)
            have i0' := Has.at hW (Has.alloc i0 _)
            have i1' := Has.at hW (Has.alloc i1 _)
            have jn := Has.newat (n := 16) hW rfl
            clear hW; have zn := zi1; clear hB; have hB := hB'; clear hB'; clear i0 zi0; have i0 := i0'; clear i0'; have zi0 := i0.2.2; clear i1 zi1; have i1 := i1'; clear i1'; have zi1 := i1.2.2
            generalize hS : (World.heap wx).size = Bn at *
            clear hS; generalize hWW : w2 = wx at *; clear hWW
            refine hK.out _ _ ?hS5 (fun hHeld => ?_)
            case hS5 => exact ⟨rb_of i0, r2_of i1⟩
            clear hK K
            (try simp only [Act.put, List.setIfInBounds_toArray, List.set_cons_zero, List.set_cons_succ])
            refine wpAnyH_ready (rs := [10]) (by kernel_rfl) (by simp) ?_
            refine AllReadyH.cons (o := _) rfl (fun K hK => ?_) ?_
            ·
              rw [if_pos (by rfl)]
              refine wp_store_BoardF _ _ rfl _ _ rfl rfl rfl jn ?_
              intro w3 ho3 hn3
              have hB' : Below w.heap.size w w3 := below_only hB ho3 (by omega)
              have i0' := Has.only i0 ho3 (by omega)
              have i1' := Has.only i1 ho3 (by omega)
              clear jn ho3; have jn := hn3; clear hn3; clear hB; have hB := hB'; clear hB'; clear i0 zi0; have i0 := i0'; clear i0'; have zi0 := i0.2.2; clear i1 zi1; have i1 := i1'; clear i1'; have zi1 := i1.2.2
              generalize hWW : w3 = wx at *; clear hWW
              refine hK.out _ _ ?hS6 (fun hHeld => ?_)
              case hS6 => exact ⟨rb_of i0, r2_of i1⟩
              clear hK K
              (try simp only [Act.put, List.setIfInBounds_toArray, List.set_cons_zero, List.set_cons_succ])
              refine take_d (i := 11) (some 8) (v := ?_) rfl rfl (by kernel_rfl) (by kernel_rfl) (by kernel_rfl) (fun _ _ _ h => h) (Or.inl ⟨by rfl, ?_⟩) (by assumption) ?_
              rotate_left; (intro w hSw; clear hSw; go_simp; try with_reducible rfl)
              all_goals (try simp only [Act.put, List.setIfInBounds_toArray, List.set_cons_zero, List.set_cons_succ])
              refine wpAnyH_done (by kernel_rfl) ?_ _
              refine NoPanic.normal ?_
              go_wp2
              go_meet
              case rel => exact ⟨_, rfl, rfl, zn, hB, i0, i1, jn⟩
            exact AllReadyH.nil
          exact AllReadyH.nil
        refine AllReadyH.cons (o := _) rfl (fun K hK => ?_) ?_
        ·
          go_simp
          generalize hW : World.alloc _ _ = w2
          have hB' : Below w.heap.size w w2 := by (rw [← hW]; exact below_new hB _)
          have i0' := Has.at hW (Has.alloc i0 _)
          have i1' := Has.at hW (Has.alloc i1 _)
          have jn := Has.newat (n := 16) hW rfl
          clear hW; have zn := zi1; clear hB; have hB := hB'; clear hB'; clear i0 zi0; have i0 := i0'; clear i0'; have zi0 := i0.2.2; clear i1 zi1; have i1 := i1'; clear i1'; have zi1 := i1.2.2
          generalize hS : (World.heap wx).size = Bn at *
          clear hS; generalize hWW : w2 = wx at *; clear hWW
          refine hK.out _ _ ?hS7 (fun hHeld => ?_)
          case hS7 => exact ⟨rb_of i0, r2_of i1⟩
          clear hK K
          (try simp only [Act.put, List.setIfInBounds_toArray, List.set_cons_zero, List.set_cons_succ])
          refine wpAnyH_ready (rs := [5]) (by kernel_rfl) (by simp) ?_
          refine AllReadyH.cons (o := _) rfl (fun K hK => ?_) ?_
          ·
            go_simp
            refine (specPutTile_F _ _ _ _ _ _ hF _).mono ?_
            rintro e w2 ⟨rfl, hb2⟩
            (try go_wp2_with fail)
            have hB' : Below w.heap.size w w2 := below_go hB hb2
            have i0' := Has.call i0 hb2
            have i1' := Has.call i1 hb2
            have jn' := Has.call jn hb2; clear jn; have jn := jn'; clear jn'
            clear hb2; clear hB; have hB := hB'; clear hB'; clear i0 zi0; have i0 := i0'; clear i0'; have zi0 := i0.2.2; clear i1 zi1; have i1 := i1'; clear i1'; have zi1 := i1.2.2
            generalize hWW : w2 = wx at *; clear hWW
            refine hK.out _ _ ?hS8 (fun hHeld => ?_)
            case hS8 => exact ⟨rb_of i0, r2_of i1⟩
            clear hK K
            (try simp only [Act.put, List.setIfInBounds_toArray, List.set_cons_zero, List.set_cons_succ])
            refine take_d (i := 6) (some 11) (v := ?_) rfl rfl (by kernel_rfl) (by kernel_rfl) (by kernel_rfl) (fun _ _ _ h => h) (Or.inl ⟨by rfl, ?_⟩) (by assumption) ?_
            rotate_left; (intro w hSw; clear hSw; go_simp; try with_reducible rfl)
            all_goals (try simp only [Act.put, List.setIfInBounds_toArray, List.set_cons_zero, List.set_cons_succ])
            refine take_d (i := 7) (some 18) (v := ?_) rfl rfl (by kernel_rfl) (by kernel_rfl) (by kernel_rfl) (fun _ _ _ h => h) (Or.inl ⟨by rfl, ?_⟩) (by assumption) ?_
            rotate_left; (intro w hSw; clear hSw; go_simp; try with_reducible rfl)
            all_goals (try simp only [Act.put, List.setIfInBounds_toArray, List.set_cons_zero, List.set_cons_succ])
            refine take_d (i := 8) (some 19) (v := ?_) rfl rfl (by kernel_rfl) (by kernel_rfl) (by kernel_rfl) (fun _ _ _ h => h) (Or.inl ⟨by rfl, ?_⟩) (by assumption) ?_
            rotate_left; (intro w hSw; clear hSw; go_simp; try with_reducible rfl)
            all_goals (try simp only [Act.put, List.setIfInBounds_toArray, List.set_cons_zero, List.set_cons_succ])
            refine wpAnyH_ready (rs := [10]) (by kernel_rfl) (by simp) ?_
            refine AllReadyH.cons (o := _) rfl (fun K hK => ?_) ?_
            ·
              rw [if_pos (by rfl)]
              refine wp_store_BoardF _ _ rfl _ _ rfl rfl rfl jn ?_
              intro w3 ho3 hn3
              have hB' : Below w.heap.size w w3 := below_only hB ho3 (by omega)
              have i0' := Has.only i0 ho3 (by omega)
              have i1' := Has.only i1 ho3 (by omega)
              clear jn ho3; have jn := hn3; clear hn3; clear hB; have hB := hB'; clear hB'; clear i0 zi0; have i0 := i0'; clear i0'; have zi0 := i0.2.2; clear i1 zi1; have i1 := i1'; clear i1'; have zi1 := i1.2.2
              generalize hWW : w3 = wx at *; clear hWW
              refine hK.out _ _ ?hS9 (fun hHeld => ?_)
              case hS9 => exact ⟨rb_of i0, r2_of i1⟩
              clear hK K
              (try simp only [Act.put, List.setIfInBounds_toArray, List.set_cons_zero, List.set_cons_succ])
              refine take_d (i := 11) (some 8) (v := ?_) rfl rfl (by kernel_rfl) (by kernel_rfl) (by kernel_rfl) (fun _ _ _ h => h) (Or.inl ⟨by rfl, ?_⟩) (by assumption) ?_
              rotate_left; (intro w hSw; clear hSw; go_simp; try with_reducible rfl)
              all_goals (try simp only [Act.put, List.setIfInBounds_toArray, List.set_cons_zero, List.set_cons_succ])
              refine wpAnyH_done (by kernel_rfl) ?_ _
              refine NoPanic.normal ?_
              go_wp2
              go_meet
              case rel => exact ⟨_, rfl, rfl, zn, hB, i0, i1, jn⟩
            exact AllReadyH.nil
          exact AllReadyH.nil
        exact AllReadyH.nil
      refine AllReadyH.cons (o := _) rfl (fun K hK => ?_) ?_
      ·
        go_simp
        generalize hW : World.alloc _ _ = w2
        have hB' : Below w.heap.size w w2 := by (rw [← hW]; exact below_new hB _)
        have i0' := Has.at hW (Has.alloc i0 _)
        have i1' := Has.at hW (Has.alloc i1 _)
        have jn := Has.newat (n := 16) hW rfl
        clear hW; have zn := zi1; clear hB; have hB := hB'; clear hB'; clear i0 zi0; have i0 := i0'; clear i0'; have zi0 := i0.2.2; clear i1 zi1; have i1 := i1'; clear i1'; have zi1 := i1.2.2
        generalize hS : (World.heap wx).size = Bn at *
        clear hS; generalize hWW : w2 = wx at *; clear hWW
        refine hK.out _ _ ?hS10 (fun hHeld => ?_)
        case hS10 => exact ⟨rb_of i0, r2_of i1⟩
        clear hK K
        (try simp only [Act.put, List.setIfInBounds_toArray, List.set_cons_zero, List.set_cons_succ])
        refine wpAnyH_ready (rs := [3]) (by kernel_rfl) (by simp) ?_
        refine AllReadyH.cons (o := _) rfl (fun K hK => ?_) ?_
        ·
          go_simp
          refine (toIntA2_any _ _ _).mono ?_
          rintro e w2 ⟨rfl, hb2⟩
          (try go_wp2_with fail)
          have hB' : Below w.heap.size w w2 := below_go hB hb2
          have i0' := Has.call i0 hb2
          have i1' := Has.call i1 hb2
          have jn' := Has.call jn hb2; clear jn; have jn := jn'; clear jn'
          clear hb2; clear hB; have hB := hB'; clear hB'; clear i0 zi0; have i0 := i0'; clear i0'; have zi0 := i0.2.2; clear i1 zi1; have i1 := i1'; clear i1'; have zi1 := i1.2.2
          generalize hWW : w2 = wx at *; clear hWW
          refine hK.out _ _ ?hS11 (fun hHeld => ?_)
          case hS11 => exact ⟨rb_of i0, r2_of i1⟩
          clear hK K
          (try simp only [Act.put, List.setIfInBounds_toArray, List.set_cons_zero, List.set_cons_succ])
          refine wpAnyH_ready (rs := [5]) (by kernel_rfl) (by simp) ?_
          refine AllReadyH.cons (o := _) rfl (fun K hK => ?_) ?_
          ·
            go_simp
            refine (specPutTile_F _ _ _ _ _ _ hF _).mono ?_
            rintro e w2 ⟨rfl, hb2⟩
            (try go_wp2_with fail)
            have hB' : Below w.heap.size w w2 := below_go hB hb2
            have i0' := Has.call i0 hb2
            have i1' := Has.call i1 hb2
            have jn' := Has.call jn hb2; clear jn; have jn := jn'; clear jn'
            clear hb2; clear hB; have hB := hB'; clear hB'; clear i0 zi0; have i0 := i0'; clear i0'; have zi0 := i0.2.2; clear i1 zi1; have i1 := i1'; clear i1'; have zi1 := i1.2.2
            generalize hWW : w2 = wx at *; clear hWW
            refine hK.out _ _ ?hS12 (fun hHeld => ?_)
            case hS12 => exact ⟨rb_of i0, r2_of i1⟩
            clear hK K
            (try simp only [Act.put, List.setIfInBounds_toArray, List.set_cons_zero, List.set_cons_succ])
            refine take_d (i := 6) (some 11) (v := ?_) rfl rfl (by kernel_rfl) (by kernel_rfl) (by kernel_rfl) (fun _ _ _ h => h) (Or.inl ⟨by rfl, ?_⟩) (by assumption) ?_
            rotate_left; (intro w hSw; clear hSw; go_simp; try with_reducible rfl)
            all_goals (try simp only [Act.put, List.setIfInBounds_toArray, List.set_cons_zero, List.set_cons_succ])
            refine take_d (i := 7) (some 18) (v := ?_) rfl rfl (by kernel_rfl) (by kernel_rfl) (by kernel_rfl) (fun _ _ _ h => h) (Or.inl ⟨by rfl, ?_⟩) (by assumption) ?_
            rotate_left; (intro w hSw; clear hSw; go_simp; try with_reducible rfl)
            all_goals (try simp only [Act.put, List.setIfInBounds_toArray, List.set_cons_zero, List.set_cons_succ])
            refine take_d (i := 8) (some 19) (v := ?_) rfl rfl (by kernel_rfl) (by kernel_rfl) (by kernel_rfl) (fun _ _ _ h => h) (Or.inl ⟨by rfl, ?_⟩) (by assumption) ?_
            rotate_left; (intro w hSw; clear hSw; go_simp; try with_reducible rfl)
            all_goals (try simp only [Act.put, List.setIfInBounds_toArray, List.set_cons_zero, List.set_cons_succ])
            refine wpAnyH_ready (rs := [10]) (by kernel_rfl) (by simp) ?_
            refine AllReadyH.cons (o := _) rfl (fun K hK => ?_) ?_
            ·
              rw [if_pos (by rfl)]
              refine wp_store_BoardF _ _ rfl _ _ rfl rfl rfl jn ?_
              intro w3 ho3 hn3
              have hB' : Below w.heap.size w w3 := below_only hB ho3 (by omega)
              have i0' := Has.only i0 ho3 (by omega)
              have i1' := Has.only i1 ho3 (by omega)
              clear jn ho3; have jn := hn3; clear hn3; clear hB; have hB := hB'; clear hB'; clear i0 zi0; have i0 := i0'; clear i0'; have zi0 := i0.2.2; clear i1 zi1; have i1 := i1'; clear i1'; have zi1 := i1.2.2
              generalize hWW : w3 = wx at *; clear hWW
              refine hK.out _ _ ?hS13 (fun hHeld => ?_)
              case hS13 => exact ⟨rb_of i0, r2_of i1⟩
              clear hK K
              (try simp only [Act.put, List.setIfInBounds_toArray, List.set_cons_zero, List.set_cons_succ])
              refine take_d (i := 11) (some 8) (v := ?_) rfl rfl (by kernel_rfl) (by kernel_rfl) (by kernel_rfl) (fun _ _ _ h => h) (Or.inl ⟨by rfl, ?_⟩) (by assumption) ?_
              rotate_left; (intro w hSw; clear hSw; go_simp; try with_reducible rfl)
              all_goals (try simp only [Act.put, List.setIfInBounds_toArray, List.set_cons_zero, List.set_cons_succ])
              refine wpAnyH_done (by kernel_rfl) ?_ _
              refine NoPanic.normal ?_
              go_wp2
              go_meet
              case rel => exact ⟨_, rfl, rfl, zn, hB, i0, i1, jn⟩
            exact AllReadyH.nil
          exact AllReadyH.nil
        exact AllReadyH.nil
      exact AllReadyH.nil
    refine AllReadyH.cons (o := _) rfl (fun K hK => ?_) ?_
    ·
      go_simp
      generalize hW : World.alloc _ _ = w2
      have hB' : Below w.heap.size w w2 := by (rw [← hW]; exact below_new hB _)
      have i0' := Has.at hW (Has.alloc i0 _)
      have i1' := Has.at hW (Has.alloc i1 _)
      have jn := Has.newat (n := 16) hW rfl
      clear hW; have zn := zi1; clear hB; have hB := hB'; clear hB'; clear i0 zi0; have i0 := i0'; clear i0'; have zi0 := i0.2.2; clear i1 zi1; have i1 := i1'; clear i1'; have zi1 := i1.2.2
      generalize hS : (World.heap wx).size = Bn at *
      clear hS; generalize hWW : w2 = wx at *; clear hWW
      refine hK.out _ _ ?hS14 (fun hHeld => ?_)
      case hS14 => exact ⟨rb_of i0, r2_of i1⟩
      clear hK K
      (try simp only [Act.put, List.setIfInBounds_toArray, List.set_cons_zero, List.set_cons_succ])
      refine wpAnyH_ready (rs := [1]) (by kernel_rfl) (by simp) ?_
      refine AllReadyH.cons (o := _) rfl (fun K hK => ?_) ?_
      ·
        go_simp
        refine (toBoard_any _ _).mono ?_
        rintro e w2 ⟨rfl, hb2⟩
        (try go_wp2_with fail)
        have hB' : Below w.heap.size w w2 := below_go hB hb2
        have i0' := Has.call i0 hb2
        have i1' := Has.call i1 hb2
        have jn' := Has.call jn hb2; clear jn; have jn := jn'; clear jn'
        clear hb2; clear hB; have hB := hB'; clear hB'; clear i0 zi0; have i0 := i0'; clear i0'; have zi0 := i0.2.2; clear i1 zi1; have i1 := i1'; clear i1'; have zi1 := i1.2.2
        generalize hWW : w2 = wx at *; clear hWW
        refine hK.out _ _ ?hS15 (fun hHeld => ?_)
        case hS15 => exact ⟨rb_of i0, r2_of i1⟩
        clear hK K
        (try simp only [Act.put, List.setIfInBounds_toArray, List.set_cons_zero, List.set_cons_succ])
        refine wpAnyH_ready (rs := [3]) (by kernel_rfl) (by simp) ?_
        refine AllReadyH.cons (o := _) rfl (fun K hK => ?_) ?_
        ·
          go_simp
          refine (toIntA2_any _ _ _).mono ?_
          rintro e w2 ⟨rfl, hb2⟩
          (try go_wp2_with fail)
          have hB' : Below w.heap.size w w2 := below_go hB hb2
          have i0' := Has.call i0 hb2
          have i1' := Has.call i1 hb2
          have jn' := Has.call jn hb2; clear jn; have jn := jn'; clear jn'
          clear hb2; clear hB; have hB := hB'; clear hB'; clear i0 zi0; have i0 := i0'; clear i0'; have zi0 := i0.2.2; clear i1 zi1; have i1 := i1'; clear i1'; have zi1 := i1.2.2
          generalize hWW : w2 = wx at *; clear hWW
          refine hK.out _ _ ?hS16 (fun hHeld => ?_)
          case hS16 => exact ⟨rb_of i0, r2_of i1⟩
          clear hK K
          (try simp only [Act.put, List.setIfInBounds_toArray, List.set_cons_zero, List.set_cons_succ])
          refine wpAnyH_ready (rs := [5]) (by kernel_rfl) (by simp) ?_
          refine AllReadyH.cons (o := _) rfl (fun K hK => ?_) ?_
          ·
            go_simp
            refine (specPutTile_F _ _ _ _ _ _ hF _).mono ?_
            rintro e w2 ⟨rfl, hb2⟩
            (try go_wp2_with fail)
            have hB' : Below w.heap.size w w2 := below_go hB hb2
            have i0' := Has.call i0 hb2
            have i1' := Has.call i1 hb2
            have jn' := Has.call jn hb2; clear jn; have jn := jn'; clear jn'
            clear hb2; clear hB; have hB := hB'; clear hB'; clear i0 zi0; have i0 := i0'; clear i0'; have zi0 := i0.2.2; clear i1 zi1; have i1 := i1'; clear i1'; have zi1 := i1.2.2
            generalize hWW : w2 = wx at *; clear hWW
            refine hK.out _ _ ?hS17 (fun hHeld => ?_)
            case hS17 => exact ⟨rb_of i0, r2_of i1⟩
            clear hK K
            (try simp only [Act.put, List.setIfInBounds_toArray, List.set_cons_zero, List.set_cons_succ])
            refine take_d (i := 6) (some 11) (v := ?_) rfl rfl (by kernel_rfl) (by kernel_rfl) (by kernel_rfl) (fun _ _ _ h => h) (Or.inl ⟨by rfl, ?_⟩) (by assumption) ?_
            rotate_left; (intro w hSw; clear hSw; go_simp; try with_reducible rfl)
            all_goals (try simp only [Act.put, List.setIfInBounds_toArray, List.set_cons_zero, List.set_cons_succ])
            refine take_d (i := 7) (some 18) (v := ?_) rfl rfl (by kernel_rfl) (by kernel_rfl) (by kernel_rfl) (fun _ _ _ h => h) (Or.inl ⟨by rfl, ?_⟩) (by assumption) ?_
            rotate_left; (intro w hSw; clear hSw; go_simp; try with_reducible rfl)
            all_goals (try simp only [Act.put, List.setIfInBounds_toArray, List.set_cons_zero, List.set_cons_succ])
            refine take_d (i := 8) (some 19) (v := ?_) rfl rfl (by kernel_rfl) (by kernel_rfl) (by kernel_rfl) (fun _ _ _ h => h) (Or.inl ⟨by rfl, ?_⟩) (by assumption) ?_
            rotate_left; (intro w hSw; clear hSw; go_simp; try with_reducible rfl)
            all_goals (try simp only [Act.put, List.setIfInBounds_toArray, List.set_cons_zero, List.set_cons_succ])
            refine wpAnyH_ready (rs := [10]) (by kernel_rfl) (by simp) ?_
            refine AllReadyH.cons (o := _) rfl (fun K hK => ?_) ?_
            ·
              rw [if_pos (by rfl)]
              refine wp_store_BoardF _ _ rfl _ _ rfl rfl rfl jn ?_
              intro w3 ho3 hn3
              have hB' : Below w.heap.size w w3 := below_only hB ho3 (by omega)
              have i0' := Has.only i0 ho3 (by omega)
              have i1' := Has.only i1 ho3 (by omega)
              clear jn ho3; have jn := hn3; clear hn3; clear hB; have hB := hB'; clear hB'; clear i0 zi0; have i0 := i0'; clear i0'; have zi0 := i0.2.2; clear i1 zi1; have i1 := i1'; clear i1'; have zi1 := i1.2.2
              generalize hWW : w3 = wx at *; clear hWW
              refine hK.out _ _ ?hS18 (fun hHeld => ?_)
              case hS18 => exact ⟨rb_of i0, r2_of i1⟩
              clear hK K
              (try simp only [Act.put, List.setIfInBounds_toArray, List.set_cons_zero, List.set_cons_succ])
              refine take_d (i := 11) (some 8) (v := ?_) rfl rfl (by kernel_rfl) (by kernel_rfl) (by kernel_rfl) (fun _ _ _ h => h) (Or.inl ⟨by rfl, ?_⟩) (by assumption) ?_
              rotate_left; (intro w hSw; clear hSw; go_simp; try with_reducible rfl)
              all_goals (try simp only [Act.put, List.setIfInBounds_toArray, List.set_cons_zero, List.set_cons_succ])
              refine wpAnyH_done (by kernel_rfl) ?_ _
              refine NoPanic.normal ?_
              go_wp2
              go_meet
              case rel => exact ⟨_, rfl, rfl, zn, hB, i0, i1, jn⟩
            exact AllReadyH.nil
          exact AllReadyH.nil
        exact AllReadyH.nil
      exact AllReadyH.nil
    exact AllReadyH.nil
  case rest =>
    clear hB i0 i1 zi0 zi1
    obtain ⟨B1, rfl, rfl, hz1, hB, i0, i1, j0⟩ := hcut
    have zi0 := i0.2.2; have zi1 := i1.2.2; have zj0 := j0.2.2
    go_wp2_with fail
    go_cut [9, 10] (fun v8 v10 wx => ∃ B : Nat, v8 = .pointer (some ⟨B, 0, none⟩) ∧ v10 = .bool ok ∧ B1 < B ∧ Below w.heap.size w wx ∧ Has wx w.heap.size 16 (fun o => .int .i64 (x0 o)) ∧ Has wx (w.heap.size + 1) 2 (fun o => if o = 0 then .int .i64 y0 else .int .i64 y1) ∧ Has wx B1 16 (fun o => .int .i64 (F o)) ∧ Has wx B 16 (fun o => .int .i64 (F o)))
    case first =>
      refine wp_region_noPanic ?_
      refine wp_region_held_drew (S := (fun w' => RB w.heap.size x0 w' ∧ R2 (w.heap.size + 1) (.int .i64 y0) (.int .i64 y1) w')) (by kernel_rfl) ?hS019 (fun hHeld => ?_)
      case hS019 => exact ⟨rb_of (Has.drew i0), r2_of (Has.drew i1)⟩
      have hB' : Below w.heap.size w (World.drew _) := Below.drew hB
      have i0' := Has.drew i0
      have i1' := Has.drew i1
      have j0' := Has.drew j0
      (try clear ci0); (try clear fi0)
      (try clear ci1); (try clear fi1)
      (try clear cj0); (try clear fj0)
      generalize hWW : World.drew _ = wx at *; clear hWW
      clear hB; have hB := hB'; clear hB'; clear i0 zi0; have i0 := i0'; clear i0'; have zi0 := i0.2.2; clear i1 zi1; have i1 := i1'; clear i1'; have zi1 := i1.2.2; clear j0 zj0; have j0 := j0'; clear j0'; have zj0 := j0.2.2
      refine take_d (i := 0) (some 21) (oi := _) (v := _) rfl rfl (by kernel_rfl) (by kernel_rfl) (by kernel_rfl) (fun _ _ _ h => h) (yieldsIf_load_mid (by rfl) _ _ rfl _ _ rfl _ _ (fun w h => h.1.r) Try.underlying30 rfl (by kernel_rfl)) (by assumption) ?_
      all_goals (try simp only [Act.put, List.setIfInBounds_toArray, List.set_cons_zero, List.set_cons_succ])
      refine take_d (i := 2) (some 23) (oi := _) (v := _) rfl rfl (by kernel_rfl) (by kernel_rfl) (by kernel_rfl) (fun _ _ _ h => h) (yieldsIf_load_mid (by rfl) _ _ rfl _ _ rfl _ _ (fun w h => h.2.r) Try.underlying39 rfl (by kernel_rfl)) (by assumption) ?_
      all_goals (try simp only [Act.put, List.setIfInBounds_toArray, List.set_cons_zero, List.set_cons_succ])
      refine take_d (i := 4) (some 25) (v := ?_) rfl rfl (by kernel_rfl) (by kernel_rfl) (by kernel_rfl) (fun _ _ _ h => h) (Or.inl ⟨by rfl, ?_⟩) (by assumption) ?_
      rotate_left; (intro w hSw; clear hSw; go_simp; try with_reducible rfl)
      all_goals (try simp only [Act.put, List.setIfInBounds_toArray, List.set_cons_zero, List.set_cons_succ])
      refine wpAnyH_ready (rs := [1, 9]) (by kernel_rfl) (by simp) ?_
      refine AllReadyH.cons (o := _) rfl (fun K hK => ?_) ?_
      ·
        go_simp
        refine (toBoard_any _ _).mono ?_
        rintro e w2 ⟨rfl, hb2⟩
        (try go_wp2_with fail)
        have hB' : Below w.heap.size w w2 := below_go hB hb2
        have i0' := Has.call i0 hb2
        have i1' := Has.call i1 hb2
        have j0' := Has.call j0 hb2
        clear hb2; clear hB; have hB := hB'; clear hB'; clear i0 zi0; have i0 := i0'; clear i0'; have zi0 := i0.2.2; clear i1 zi1; have i1 := i1'; clear i1'; have zi1 := i1.2.2; clear j0 zj0; have j0 := j0'; clear j0'; have zj0 := j0.2.2
        generalize hWW : w2 = wx at *; clear hWW
        refine hK.out _ _ ?hS20 (fun hHeld => ?_)
        case hS20 => exact ⟨rb_of i0, r2_of i1⟩
        clear hK K
        (try simp only [Act.put, List.setIfInBounds_toArray, List.set_cons_zero, List.set_cons_succ])
        refine wpAnyH_ready (rs := [3, 9]) (by kernel_rfl) (by simp) ?_
        refine AllReadyH.cons (o := _) rfl (fun K hK => ?_) ?_
        ·
          go_simp
          refine (toIntA2_any _ _ _).mono ?_
          rintro e w2 ⟨rfl, hb2⟩
          (try go_wp2_with fail)
          have hB' : Below w.heap.size w w2 := below_go hB hb2
          have i0' := Has.call i0 hb2
          have i1' := Has.call i1 hb2
          have j0' := Has.call j0 hb2
          clear hb2; clear hB; have hB := hB'; clear hB'; clear i0 zi0; have i0 := i0'; clear i0'; have zi0 := i0.2.2; clear i1 zi1; have i1 := i1'; clear i1'; have zi1 := i1.2.2; clear j0 zj0; have j0 := j0'; clear j0'; have zj0 := j0.2.2
          generalize hWW : w2 = wx at *; clear hWW
          refine hK.out _ _ ?hS21 (fun hHeld => ?_)
          case hS21 => exact ⟨rb_of i0, r2_of i1⟩
          clear hK K
          (try simp only [Act.put, List.setIfInBounds_toArray, List.set_cons_zero, List.set_cons_succ])
          refine wpAnyH_ready (rs := [5, 9]) (by kernel_rfl) (by simp) ?_
          refine AllReadyH.cons (o := _) rfl (fun K hK => ?_) ?_
          ·
            go_simp
            refine (putTile_F _ _ _ _ _ _ hF _).mono ?_
            rintro e w2 ⟨rfl, hb2⟩
            (try go_wp2_with fail)
            have hB' : Below w.heap.size w w2 := below_go hB hb2
            have i0' := Has.call i0 hb2
            have i1' := Has.call i1 hb2
            have j0' := Has.call j0 hb2
            clear hb2; clear hB; have hB := hB'; clear hB'; clear i0 zi0; have i0 := i0'; clear i0'; have zi0 := i0.2.2; clear i1 zi1; have i1 := i1'; clear i1'; have zi1 := i1.2.2; clear j0 zj0; have j0 := j0'; clear j0'; have zj0 := j0.2.2
            generalize hWW : w2 = wx at *; clear hWW
            refine hK.out _ _ ?hS22 (fun hHeld => ?_)
            case hS22 => exact ⟨rb_of i0, r2_of i1⟩
            clear hK K
            (try simp only [Act.put, List.setIfInBounds_toArray, List.set_cons_zero, List.set_cons_succ])
            refine take_d (i := 6) (some 20) (v := ?_) rfl rfl (by kernel_rfl) (by kernel_rfl) (by kernel_rfl) (fun _ _ _ h => h) (Or.inl ⟨by rfl, ?_⟩) (by assumption) ?_
            rotate_left; (intro w hSw; clear hSw; go_simp; try with_reducible rfl)
            all_goals (try simp only [Act.put, List.setIfInBounds_toArray, List.set_cons_zero, List.set_cons_succ])
            refine take_d (i := 7) (some 27) (v := ?_) rfl rfl (by kernel_rfl) (by kernel_rfl) (by kernel_rfl) (fun _ _ _ h => h) (Or.inl ⟨by rfl, ?_⟩) (by assumption) ?_
            rotate_left; (intro w hSw; clear hSw; go_simp; try with_reducible rfl)
            all_goals (try simp only [Act.put, List.setIfInBounds_toArray, List.set_cons_zero, List.set_cons_succ])
            refine take_d (i := 8) (some 28) (v := ?_) rfl rfl (by kernel_rfl) (by kernel_rfl) (by kernel_rfl) (fun _ _ _ h => h) (Or.inl ⟨by rfl, ?_⟩) (by assumption) ?_
            rotate_left; (intro w hSw; clear hSw; go_simp; try with_reducible rfl)
            all_goals (try simp only [Act.put, List.setIfInBounds_toArray, List.set_cons_zero, List.set_cons_succ])
            refine wpAnyH_ready (rs := [9]) (by kernel_rfl) (by simp) ?_
            refine AllReadyH.cons (o := _) rfl (fun K hK => ?_) ?_
            ·
              go_simp
              generalize hW : World.alloc _ _ = w2
              have hB' : Below w.heap.size w w2 := by (rw [← hW]; exact below_new hB _)
              have i0' := Has.at hW (Has.alloc i0 _)
              have i1' := Has.at hW (Has.alloc i1 _)
              have j0' := Has.at hW (Has.alloc j0 _)
              have jn := Has.newat (n := 16) hW rfl
              clear hW; have zn := zj0; clear hB; have hB := hB'; clear hB'; clear i0 zi0; have i0 := i0'; clear i0'; have zi0 := i0.2.2; clear i1 zi1; have i1 := i1'; clear i1'; have zi1 := i1.2.2; clear j0 zj0; have j0 := j0'; clear j0'; have zj0 := j0.2.2
              generalize hS : (World.heap wx).size = Bn at *
              clear hS; generalize hWW : w2 = wx at *; clear hWW
              refine hK.out _ _ ?hS23 (fun hHeld => ?_)
              case hS23 => exact ⟨rb_of i0, r2_of i1⟩
              clear hK K
              (try simp only [Act.put, List.setIfInBounds_toArray, List.set_cons_zero, List.set_cons_succ])
              refine wpAnyH_ready (rs := [10]) (by kernel_rfl) (by simp) ?_
              refine AllReadyH.cons (o := _) rfl (fun K hK => ?_) ?_
              ·
                rw [if_pos (by rfl)]
                refine wp_store_BoardF _ _ rfl _ _ rfl rfl rfl jn ?_
                intro w3 ho3 hn3
                have hB' : Below w.heap.size w w3 := below_only hB ho3 (by omega)
                have i0' := Has.only i0 ho3 (by omega)
                have i1' := Has.only i1 ho3 (by omega)
                have j0' := Has.only j0 ho3 (by omega)
                clear jn ho3; have jn := hn3; clear hn3; clear hB; have hB := hB'; clear hB'; clear i0 zi0; have i0 := i0'; clear i0'; have zi0 := i0.2.2; clear i1 zi1; have i1 := i1'; clear i1'; have zi1 := i1.2.2; clear j0 zj0; have j0 := j0'; clear j0'; have zj0 := j0.2.2
                generalize hWW : w3 = wx at *; clear hWW
                refine hK.out _ _ ?hS24 (fun hHeld => ?_)
                case hS24 => exact ⟨rb_of i0, r2_of i1⟩
                clear hK K
                (try simp only [Act.put, List.setIfInBounds_toArray, List.set_cons_zero, List.set_cons_succ])
                refine take_d (i := 11) (some 10) (v := ?_) rfl rfl (by kernel_rfl) (by kernel_rfl) (by kernel_rfl) (fun _ _ _ h => h) (Or.inl ⟨by rfl, ?_⟩) (by assumption) ?_
                rotate_left; (intro w hSw; clear hSw; go_simp; try with_reducible rfl)
                all_goals (try simp only [Act.put, List.setIfInBounds_toArray, List.set_cons_zero, List.set_cons_succ])
                refine wpAnyH_done (by kernel_rfl) ?_ _
                refine NoPanic.normal ?_
                go_wp2
                go_meet
                case rel => exact ⟨_, rfl, rfl, zn, hB, i0, i1, j0, jn⟩
              exact AllReadyH.nil
            exact AllReadyH.nil
          refine AllReadyH.cons (o := _) rfl (fun K hK => ?_) ?_
          ·
            go_simp
            generalize hW : World.alloc _ _ = w2
            have hB' : Below w.heap.size w w2 := by (rw [← hW]; exact below_new hB _)
            have i0' := Has.at hW (Has.alloc i0 _)
            have i1' := Has.at hW (Has.alloc i1 _)
            have j0' := Has.at hW (Has.alloc j0 _)
            have jn := Has.newat (n := 16) hW rfl
            clear hW; have zn := zj0; clear hB; have hB := hB'; clear hB'; clear i0 zi0; have i0 := i0'; clear i0'; have zi0 := i0.2.2; clear i1 zi1; have i1 := i1'; clear i1'; have zi1 := i1.2.2; clear j0 zj0; have j0 := j0'; clear j0'; have zj0 := j0.2.2
            generalize hS : (World.heap wx).size = Bn at *
            clear hS; generalize hWW : w2 = wx at *; clear hWW
            refine hK.out _ _ ?hS25 (fun hHeld => ?_)
            case hS25 => exact ⟨rb_of i0, r2_of i1⟩
            clear hK K
            (try simp only [Act.put, List.setIfInBounds_toArray, List.set_cons_zero, List.set_cons_succ])
            refine wpAnyH_ready (rs := [5]) (by kernel_rfl) (by simp) ?_
            refine AllReadyH.cons (o := _) rfl (fun K hK => ?_) ?_
            ·
              go_simp
              refine (putTile_F _ _ _ _ _ _ hF _).mono ?_
              rintro e w2 ⟨rfl, hb2⟩
              (try go_wp2_with fail)
              have hB' : Below w.heap.size w w2 := below_go hB hb2
              have i0' := Has.call i0 hb2
              have i1' := Has.call i1 hb2
              have j0' := Has.call j0 hb2
              have jn' := Has.call jn hb2; clear jn; have jn := jn'; clear jn'
              clear hb2; clear hB; have hB := hB'; clear hB'; clear i0 zi0; have i0 := i0'; clear i0'; have zi0 := i0.2.2; clear i1 zi1; have i1 := i1'; clear i1'; have zi1 := i1.2.2; clear j0 zj0; have j0 := j0'; clear j0'; have zj0 := j0.2.2
              generalize hWW : w2 = wx at *; clear hWW
              refine hK.out _ _ ?hS26 (fun hHeld => ?_)
              case hS26 => exact ⟨rb_of i0, r2_of i1⟩
              clear hK K
              (try simp only [Act.put, List.setIfInBounds_toArray, List.set_cons_zero, List.set_cons_succ])
              refine take_d (i := 6) (some 20) (v := ?_) rfl rfl (by kernel_rfl) (by kernel_rfl) (by kernel_rfl) (fun _ _ _ h => h) (Or.inl ⟨by rfl, ?_⟩) (by assumption) ?_
              rotate_left; (intro w hSw; clear hSw; go_simp; try with_reducible rfl)
              all_goals (try simp only [Act.put, List.setIfInBounds_toArray, List.set_cons_zero, List.set_cons_succ])
              refine take_d (i := 7) (some 27) (v := ?_) rfl rfl (by kernel_rfl) (by kernel_rfl) (by kernel_rfl) (fun _ _ _ h => h) (Or.inl ⟨by rfl, ?_⟩) (by assumption) ?_
              rotate_left; (intro w hSw; clear hSw; go_simp; try with_reducible rfl)
              all_goals (try simp only [Act.put, List.setIfInBounds_toArray, List.set_cons_zero, List.set_cons_succ])
              refine take_d (i := 8) (some 28) (v := ?_) rfl rfl (by kernel_rfl) (by kernel_rfl) (by kernel_rfl) (fun _ _ _ h => h) (Or.inl ⟨by rfl, ?_⟩) (by assumption) ?_
              rotate_left; (intro w hSw; clear hSw; go_simp; try with_reducible rfl)
              all_goals (try simp only [Act.put, List.setIfInBounds_toArray, List.set_cons_zero, List.set_cons_succ])
              refine wpAnyH_ready (rs := [10]) (by kernel_rfl) (by simp) ?_
              refine AllReadyH.cons (o := _) rfl (fun K hK => ?_) ?_
              ·
                rw [if_pos (by rfl)]
                refine wp_store_BoardF _ _ rfl _ _ rfl rfl rfl jn ?_
                intro w3 ho3 hn3
                have hB' : Below w.heap.size w w3 := below_only hB ho3 (by omega)
                have i0' := Has.only i0 ho3 (by omega)
                have i1' := Has.only i1 ho3 (by omega)
                have j0' := Has.only j0 ho3 (by omega)
                clear jn ho3; have jn := hn3; clear hn3; clear hB; have hB := hB'; clear hB'; clear i0 zi0; have i0 := i0'; clear i0'; have zi0 := i0.2.2; clear i1 zi1; have i1 := i1'; clear i1'; have zi1 := i1.2.2; clear j0 zj0; have j0 := j0'; clear j0'; have zj0 := j0.2.2
                generalize hWW : w3 = wx at *; clear hWW
                refine hK.out _ _ ?hS27 (fun hHeld => ?_)
                case hS27 => exact ⟨rb_of i0, r2_of i1⟩
                clear hK K
                (try simp only [Act.put, List.setIfInBounds_toArray, List.set_cons_zero, List.set_cons_succ])
                refine take_d (i := 11) (some 10) (v := ?_) rfl rfl (by kernel_rfl) (by kernel_rfl) (by kernel_rfl) (fun _ _ _ h => h) (Or.inl ⟨by rfl, ?_⟩) (by assumption) ?_
                rotate_left; (intro w hSw; clear hSw; go_simp; try with_reducible rfl)
                all_goals (try simp only [Act.put, List.setIfInBounds_toArray, List.set_cons_zero, List.set_cons_succ])
                refine wpAnyH_done (by kernel_rfl) ?_ _
                refine NoPanic.normal ?_
                go_wp2
                go_meet
                case rel => exact ⟨_, rfl, rfl, zn, hB, i0, i1, j0, jn⟩
              exact AllReadyH.nil
            exact AllReadyH.nil
          exact AllReadyH.nil
        refine AllReadyH.cons (o := _) rfl (fun K hK => ?_) ?_
        ·
          go_simp
          generalize hW : World.alloc _ _ = w2
          have hB' : Below w.heap.size w w2 := by (rw [← hW]; exact below_new hB _)
          have i0' := Has.at hW (Has.alloc i0 _)
          have i1' := Has.at hW (Has.alloc i1 _)
          have j0' := Has.at hW (Has.alloc j0 _)
          have jn := Has.newat (n := 16) hW rfl
          clear hW; have zn := zj0; clear hB; have hB := hB'; clear hB'; clear i0 zi0; have i0 := i0'; clear i0'; have zi0 := i0.2.2; clear i1 zi1; have i1 := i1'; clear i1'; have zi1 := i1.2.2; clear j0 zj0; have j0 := j0'; clear j0'; have zj0 := j0.2.2
          generalize hS : (World.heap wx).size = Bn at *
          clear hS; generalize hWW : w2 = wx at *; clear hWW
          refine hK.out _ _ ?hS28 (fun hHeld => ?_)
          case hS28 => exact ⟨rb_of i0, r2_of i1⟩
          clear hK K
          (try simp only [Act.put, List.setIfInBounds_toArray, List.set_cons_zero, List.set_cons_succ])
          refine wpAnyH_ready (rs := [3]) (by kernel_rfl) (by simp) ?_
          refine AllReadyH.cons (o := _) rfl (fun K hK => ?_) ?_
          ·
            go_simp
            refine (toIntA2_any _ _ _).mono ?_
            rintro e w2 ⟨rfl, hb2⟩
            (try go_wp2_with fail)
            have hB' : Below w.heap.size w w2 := below_go hB hb2
            have i0' := Has.call i0 hb2
            have i1' := Has.call i1 hb2
            have j0' := Has.call j0 hb2
            have jn' := Has.call jn hb2; clear jn; have jn := jn'; clear jn'
            clear hb2; clear hB; have hB := hB'; clear hB'; clear i0 zi0; have i0 := i0'; clear i0'; have zi0 := i0.2.2; clear i1 zi1; have i1 := i1'; clear i1'; have zi1 := i1.2.2; clear j0 zj0; have j0 := j0'; clear j0'; have zj0 := j0.2.2
            generalize hWW : w2 = wx at *; clear hWW
            refine hK.out _ _ ?hS29 (fun hHeld => ?_)
            case hS29 => exact ⟨rb_of i0, r2_of i1⟩
            clear hK K
            (try simp only [Act.put, List.setIfInBounds_toArray, List.set_cons_zero, List.set_cons_succ])
            refine wpAnyH_ready (rs := [5]) (by kernel_rfl) (by simp) ?_
            refine AllReadyH.cons (o := _) rfl (fun K hK => ?_) ?_
            ·
              go_simp
              refine (putTile_F _ _ _ _ _ _ hF _).mono ?_
              rintro e w2 ⟨rfl, hb2⟩
              (try go_wp2_with fail)
              have hB' : Below w.heap.size w w2 := below_go hB hb2
              have i0' := Has.call i0 hb2
              have i1' := Has.call i1 hb2
              have j0' := Has.call j0 hb2
              have jn' := Has.call jn hb2; clear jn; have jn := jn'; clear jn'
              clear hb2; clear hB; have hB := hB'; clear hB'; clear i0 zi0; have i0 := i0'; clear i0'; have zi0 := i0.2.2; clear i1 zi1; have i1 := i1'; clear i1'; have zi1 := i1.2.2; clear j0 zj0; have j0 := j0'; clear j0'; have zj0 := j0.2.2
              generalize hWW : w2 = wx at *; clear hWW
              refine hK.out _ _ ?hS30 (fun hHeld => ?_)
              case hS30 => exact ⟨rb_of i0, r2_of i1⟩
              clear hK K
              (try simp only [Act.put, List.setIfInBounds_toArray, List.set_cons_zero, List.set_cons_succ])
              refine take_d (i := 6) (some 20) (v := ?_) rfl rfl (by kernel_rfl) (by kernel_rfl) (by kernel_rfl) (fun _ _ _ h => h) (Or.inl ⟨by rfl, ?_⟩) (by assumption) ?_
              rotate_left; (intro w hSw; clear hSw; go_simp; try with_reducible rfl)
              all_goals (try simp only [Act.put, List.setIfInBounds_toArray, List.set_cons_zero, List.set_cons_succ])
              refine take_d (i := 7) (some 27) (v := ?_) rfl rfl (by kernel_rfl) (by kernel_rfl) (by kernel_rfl) (fun _ _ _ h => h) (Or.inl ⟨by rfl, ?_⟩) (by assumption) ?_
              rotate_left; (intro w hSw; clear hSw; go_simp; try with_reducible rfl)
              all_goals (try simp only [Act.put, List.setIfInBounds_toArray, List.set_cons_zero, List.set_cons_succ])
              refine take_d (i := 8) (some 28) (v := ?_) rfl rfl (by kernel_rfl) (by kernel_rfl) (by kernel_rfl) (fun _ _ _ h => h) (Or.inl ⟨by rfl, ?_⟩) (by assumption) ?_
              rotate_left; (intro w hSw; clear hSw; go_simp; try with_reducible rfl)
              all_goals (try simp only [Act.put, List.setIfInBounds_toArray, List.set_cons_zero, List.set_cons_succ])
              refine wpAnyH_ready (rs := [10]) (by kernel_rfl) (by simp) ?_
              refine AllReadyH.cons (o := _) rfl (fun K hK => ?_) ?_
              ·
                rw [if_pos (by rfl)]
                refine wp_store_BoardF _ _ rfl _ _ rfl rfl rfl jn ?_
                intro w3 ho3 hn3
                have hB' : Below w.heap.size w w3 := below_only hB ho3 (by omega)
                have i0' := Has.only i0 ho3 (by omega)
                have i1' := Has.only i1 ho3 (by omega)
                have j0' := Has.only j0 ho3 (by omega)
                clear jn ho3; have jn := hn3; clear hn3; clear hB; have hB := hB'; clear hB'; clear i0 zi0; have i0 := i0'; clear i0'; have zi0 := i0.2.2; clear i1 zi1; have i1 := i1'; clear i1'; have zi1 := i1.2.2; clear j0 zj0; have j0 := j0'; clear j0'; have zj0 := j0.2.2
                generalize hWW : w3 = wx at *; clear hWW
                refine hK.out _ _ ?hS31 (fun hHeld => ?_)
                case hS31 => exact ⟨rb_of i0, r2_of i1⟩
                clear hK K
                (try simp only [Act.put, List.setIfInBounds_toArray, List.set_cons_zero, List.set_cons_succ])
                refine take_d (i := 11) (some 10) (v := ?_) rfl rfl (by kernel_rfl) (by kernel_rfl) (by kernel_rfl) (fun _ _ _ h => h) (Or.inl ⟨by rfl, ?_⟩) (by assumption) ?_
                rotate_left; (intro w hSw; clear hSw; go_simp; try with_reducible rfl)
                all_goals (try simp only [Act.put, List.setIfInBounds_toArray, List.set_cons_zero, List.set_cons_succ])
                refine wpAnyH_done (by kernel_rfl) ?_ _
                refine NoPanic.normal ?_
                go_wp2
                go_meet
                case rel => exact ⟨_, rfl, rfl, zn, hB, i0, i1, j0, jn⟩
              exact AllReadyH.nil
            exact AllReadyH.nil
          exact AllReadyH.nil
        exact AllReadyH.nil
      refine AllReadyH.cons (o := _) rfl (fun K hK => ?_) ?_
      ·
        go_simp
        generalize hW : World.alloc _ _ = w2
        have hB' : Below w.heap.size w w2 := by (rw [← hW]; exact below_new hB _)
        have i0' := Has.at hW (Has.alloc i0 _)
        have i1' := Has.at hW (Has.alloc i1 _)
        have j0' := Has.at hW (Has.alloc j0 _)
        have jn := Has.newat (n := 16) hW rfl
        clear hW; have zn := zj0; clear hB; have hB := hB'; clear hB'; clear i0 zi0; have i0 := i0'; clear i0'; have zi0 := i0.2.2; clear i1 zi1; have i1 := i1'; clear i1'; have zi1 := i1.2.2; clear j0 zj0; have j0 := j0'; clear j0'; have zj0 := j0.2.2
        generalize hS : (World.heap wx).size = Bn at *
        clear hS; generalize hWW : w2 = wx at *; clear hWW
        refine hK.out _ _ ?hS32 (fun hHeld => ?_)
        case hS32 => exact ⟨rb_of i0, r2_of i1⟩
        clear hK K
        (try simp only [Act.put, List.setIfInBounds_toArray, List.set_cons_zero, List.set_cons_succ])
        refine wpAnyH_ready (rs := [1]) (by kernel_rfl) (by simp) ?_
        refine AllReadyH.cons (o := _) rfl (fun K hK => ?_) ?_
        ·
          go_simp
          refine (toBoard_any _ _).mono ?_
          rintro e w2 ⟨rfl, hb2⟩
          (try go_wp2_with fail)
          have hB' : Below w.heap.size w w2 := below_go hB hb2
          have i0' := Has.call i0 hb2
          have i1' := Has.call i1 hb2
          have j0' := Has.call j0 hb2
          have jn' := Has.call jn hb2; clear jn; have jn := jn'; clear jn'
          clear hb2; clear hB; have hB := hB'; clear hB'; clear i0 zi0; have i0 := i0'; clear i0'; have zi0 := i0.2.2; clear i1 zi1; have i1 := i1'; clear i1'; have zi1 := i1.2.2; clear j0 zj0; have j0 := j0'; clear j0'; have zj0 := j0.2.2
          generalize hWW : w2 = wx at *; clear hWW
          refine hK.out _ _ ?hS33 (fun hHeld => ?_)
          case hS33 => exact ⟨rb_of i0, r2_of i1⟩
          clear hK K
          (try simp only [Act.put, List.setIfInBounds_toArray, List.set_cons_zero, List.set_cons_succ])
          refine wpAnyH_ready (rs := [3]) (by kernel_rfl) (by simp) ?_
          refine AllReadyH.cons (o := _) rfl (fun K hK => ?_) ?_
          ·
            go_simp
            refine (toIntA2_any _ _ _).mono ?_
            rintro e w2 ⟨rfl, hb2⟩
            (try go_wp2_with fail)
            have hB' : Below w.heap.size w w2 := below_go hB hb2
            have i0' := Has.call i0 hb2
            have i1' := Has.call i1 hb2
            have j0' := Has.call j0 hb2
            have jn' := Has.call jn hb2; clear jn; have jn := jn'; clear jn'
            clear hb2; clear hB; have hB := hB'; clear hB'; clear i0 zi0; have i0 := i0'; clear i0'; have zi0 := i0.2.2; clear i1 zi1; have i1 := i1'; clear i1'; have zi1 := i1.2.2; clear j0 zj0; have j0 := j0'; clear j0'; have zj0 := j0.2.2
            generalize hWW : w2 = wx at *; clear hWW
            refine hK.out _ _ ?hS34 (fun hHeld => ?_)
            case hS34 => exact ⟨rb_of i0, r2_of i1⟩
            clear hK K
            (try simp only [Act.put, List.setIfInBounds_toArray, List.set_cons_zero, List.set_cons_succ])
            refine wpAnyH_ready (rs := [5]) (by kernel_rfl) (by simp) ?_
            refine AllReadyH.cons (o := _) rfl (fun K hK => ?_) ?_
            ·
              go_simp
              refine (putTile_F _ _ _ _ _ _ hF _).mono ?_
              rintro e w2 ⟨rfl, hb2⟩
              (try go_wp2_with fail)
              have hB' : Below w.heap.size w w2 := below_go hB hb2
              have i0' := Has.call i0 hb2
              have i1' := Has.call i1 hb2
              have j0' := Has.call j0 hb2
              have jn' := Has.call jn hb2; clear jn; have jn := jn'; clear jn'
              clear hb2; clear hB; have hB := hB'; clear hB'; clear i0 zi0; have i0 := i0'; clear i0'; have zi0 := i0.2.2; clear i1 zi1; have i1 := i1'; clear i1'; have zi1 := i1.2.2; clear j0 zj0; have j0 := j0'; clear j0'; have zj0 := j0.2.2
              generalize hWW : w2 = wx at *; clear hWW
              refine hK.out _ _ ?hS35 (fun hHeld => ?_)
              case hS35 => exact ⟨rb_of i0, r2_of i1⟩
              clear hK K
              (try simp only [Act.put, List.setIfInBounds_toArray, List.set_cons_zero, List.set_cons_succ])
              refine take_d (i := 6) (some 20) (v := ?_) rfl rfl (by kernel_rfl) (by kernel_rfl) (by kernel_rfl) (fun _ _ _ h => h) (Or.inl ⟨by rfl, ?_⟩) (by assumption) ?_
              rotate_left; (intro w hSw; clear hSw; go_simp; try with_reducible rfl)
              all_goals (try simp only [Act.put, List.setIfInBounds_toArray, List.set_cons_zero, List.set_cons_succ])
              refine take_d (i := 7) (some 27) (v := ?_) rfl rfl (by kernel_rfl) (by kernel_rfl) (by kernel_rfl) (fun _ _ _ h => h) (Or.inl ⟨by rfl, ?_⟩) (by assumption) ?_
              rotate_left; (intro w hSw; clear hSw; go_simp; try with_reducible rfl)
              all_goals (try simp only [Act.put, List.setIfInBounds_toArray, List.set_cons_zero, List.set_cons_succ])
              refine take_d (i := 8) (some 28) (v := ?_) rfl rfl (by kernel_rfl) (by kernel_rfl) (by kernel_rfl) (fun _ _ _ h => h) (Or.inl ⟨by rfl, ?_⟩) (by assumption) ?_
              rotate_left; (intro w hSw; clear hSw; go_simp; try with_reducible rfl)
              all_goals (try simp only [Act.put, List.setIfInBounds_toArray, List.set_cons_zero, List.set_cons_succ])
              refine wpAnyH_ready (rs := [10]) (by kernel_rfl) (by simp) ?_
              refine AllReadyH.cons (o := _) rfl (fun K hK => ?_) ?_
              ·
                rw [if_pos (by rfl)]
                refine wp_store_BoardF _ _ rfl _ _ rfl rfl rfl jn ?_
                intro w3 ho3 hn3
                have hB' : Below w.heap.size w w3 := below_only hB ho3 (by omega)
                have i0' := Has.only i0 ho3 (by omega)
                have i1' := Has.only i1 ho3 (by omega)
                have j0' := Has.only j0 ho3 (by omega)
                clear jn ho3; have jn := hn3; clear hn3; clear hB; have hB := hB'; clear hB'; clear i0 zi0; have i0 := i0'; clear i0'; have zi0 := i0.2.2; clear i1 zi1; have i1 := i1'; clear i1'; have zi1 := i1.2.2; clear j0 zj0; have j0 := j0'; clear j0'; have zj0 := j0.2.2
                generalize hWW : w3 = wx at *; clear hWW
                refine hK.out _ _ ?hS36 (fun hHeld => ?_)
                case hS36 => exact ⟨rb_of i0, r2_of i1⟩
                clear hK K
                (try simp only [Act.put, List.setIfInBounds_toArray, List.set_cons_zero, List.set_cons_succ])
                refine take_d (i := 11) (some 10) (v := ?_) rfl rfl (by kernel_rfl) (by kernel_rfl) (by kernel_rfl) (fun _ _ _ h => h) (Or.inl ⟨by rfl, ?_⟩) (by assumption) ?_
                rotate_left; (intro w hSw; clear hSw; go_simp; try with_reducible rfl)
                all_goals (try simp only [Act.put, List.setIfInBounds_toArray, List.set_cons_zero, List.set_cons_succ])
                refine wpAnyH_done (by kernel_rfl) ?_ _
                refine NoPanic.normal ?_
                go_wp2
                go_meet
                case rel => exact ⟨_, rfl, rfl, zn, hB, i0, i1, j0, jn⟩
              exact AllReadyH.nil
            exact AllReadyH.nil
          exact AllReadyH.nil
        exact AllReadyH.nil
      exact AllReadyH.nil
    case rest =>
      clear hB i0 i1 j0 zi0 zi1 zj0
      obtain ⟨B2, rfl, rfl, hz2, hB, i0, i1, j0, k0⟩ := hcut
      go_wp2_with (first | (go_at_call 41; (with_reducible refine (eqBoard_same _ _).mono ?_); rintro e w2 ⟨rfl, hb2⟩; have hB' : Below w.heap.size w w2 := below_go (by repeat (first | (with_reducible exact Below.refl _ _) | (with_reducible assumption) | (with_reducible refine below_go ?_ (by with_reducible assumption)) | (with_reducible refine below_new ?_ _) | ((with_reducible refine below_put ?_ ?_ _); rotate_left; (dsimp only; omega)) | (with_reducible refine Below.drew ?_) | (with_reducible refine below_dn ?_ _))) hb2; have i0' : Has w2 (w.heap.size) 16 _ := Has.call (by repeat (first | (with_reducible assumption) | (with_reducible apply Has.set) | ((with_reducible apply Has.other); (case hne => (dsimp only; omega))) | (with_reducible apply Has.alloc) | (with_reducible apply Has.drew) | (with_reducible apply Has.drewN))) hb2; have j0' : Has w2 (B1) 16 _ := Has.call (by repeat (first | (with_reducible assumption) | (with_reducible apply Has.set) | ((with_reducible apply Has.other); (case hne => (dsimp only; omega))) | (with_reducible apply Has.alloc) | (with_reducible apply Has.drew) | (with_reducible apply Has.drewN))) hb2; have k0' : Has w2 (B2) 16 _ := Has.call (by repeat (first | (with_reducible assumption) | (with_reducible apply Has.set) | ((with_reducible apply Has.other); (case hne => (dsimp only; omega))) | (with_reducible apply Has.alloc) | (with_reducible apply Has.drew) | (with_reducible apply Has.drewN))) hb2; clear hB hb2; have hB := hB'; clear hB'; (try clear fi0); (try clear zi0); (try clear ci0); clear i0; have i0 := i0'; clear i0'; have ci0 := i0.1; have fi0 := i0.2.1; have zi0 := i0.2.2; (try clear fj0); (try clear zj0); (try clear cj0); clear j0; have j0 := j0'; clear j0'; have cj0 := j0.1; have fj0 := j0.2.1; have zj0 := j0.2.2; (try clear fk0); (try clear zk0); (try clear ck0); clear k0; have k0 := k0'; clear k0'; have ck0 := k0.1; have fk0 := k0.2.1; have zk0 := k0.2.2) | (refine load_Board rfl _ rfl _ _ rfl (by repeat (first | (with_reducible assumption) | (with_reducible apply Has.set) | ((with_reducible apply Has.other); (case hne => (dsimp only; omega))) | (with_reducible apply Has.alloc) | (with_reducible apply Has.drew) | (with_reducible apply Has.drewN))) (by omega) ?_))
      all_goals
        go_ret
        exact ⟨rfl, (by repeat (first | (with_reducible exact Below.refl _ _) | (with_reducible assumption) | (with_reducible refine below_go ?_ (by with_reducible assumption)) | (with_reducible refine below_new ?_ _) | ((with_reducible refine below_put ?_ ?_ _); rotate_left; (dsimp only; omega)) | (with_reducible refine Below.drew ?_) | (with_reducible refine below_dn ?_ _)))⟩

namespace fnExactPutTile
set_option maxRecDepth 100000 in
theorem lifted (os : Os) (started : os.Started) (H : Type) (enc : TypeId × Value → H) :
    ReturnsInHanded {} Try.checked os 9 .any (Rows.fnExactPutTileSpec.pre6 enc Try.prog Try.f9 Rows.fnExactPutTileRow.domain false) (Rows.fnExactPutTileSpec.post enc Try.prog Try.f9 false true false false) := by
  refine returnsInHanded_of_change_sized (C := Try.checked) own started (by kernel_rfl) Try.func9
    (ChangeSpec.witness6 (enc := enc) (C := Try.checked) false ⟨#[], #[.agg #[.int .i64 0, .int .i64 0, .int .i64 0, .int .i64 0, .int .i64 0, .int .i64 0, .int .i64 0, .int .i64 0, .int .i64 0, .int .i64 0, .int .i64 0, .int .i64 0, .int .i64 0, .int .i64 0, .int .i64 0, .int .i64 0], .agg #[.int .i64 0, .int .i64 0], .int .i64 0], []⟩ 8 (by kernel_rfl) (by kernel_rfl) (by kernel_rfl) (by kernel_rfl)) ?_
  intro W base args ds gs before hval0 hW hcnd hsz0 _
  have hval : ∀ (j : Nat) t v, Try.f9.params[j]? = some t → args[j]? = some v → Value.okWide Try.prog W .any base t v := hval0
  have hW' := hW
  obtain ⟨p, q, hA0, hV, rfl, hfz, hnd⟩ := hW
  have hA : DataW.TrodAll enc Try.prog W 0 (fun _ => true) true Try.f9.params.toList args.toList ds p := hA0
  have hA1 := hA
  rw [Try.params9] at hA hval
  obtain ⟨v0, vs0, d0, ds0, p0, q0, hargs, rfl, rfl, h0, r0⟩ := trodAll_cons hA
  obtain ⟨v1, vs1, d1, ds1, p1, q1, rfl, rfl, rfl, h1, r1⟩ := trodAll_cons r0
  obtain ⟨v2, vs2, d2, ds2, p2, q2, rfl, rfl, rfl, h2, r2⟩ := trodAll_cons r1
  obtain ⟨rfl, rfl, rfl⟩ := trodAll_nil r2
  obtain rfl : args = #[v0, v1, v2] := by cases args; simp_all
  obtain ⟨rfl, rfl⟩ := trodVars_none hV
  obtain ⟨x0, rfl, b0⟩ := ints_of_okWide (e := 3) 16 rfl (by kernel_rfl) Try.underlying3 (by kernel_rfl) (hval 0 30 v0 rfl rfl)
  obtain ⟨x1, rfl, b1⟩ := ints_of_okWide (e := 3) 2 rfl (by kernel_rfl) Try.underlying3 (by kernel_rfl) (hval 1 39 v1 rfl rfl)
  obtain ⟨x2, rfl, -, -, y2⟩ := open_int Try.underlying3 (hval 2 3 v2 rfl rfl) h2
  have keep : ∀ W', Below W.heap.size W W' → DataW.TrodAll enc Try.prog W' 0 (fun b => decide (b < W.heap.size)) true Try.f9.params.toList _ _ _ := fun W' hb => trodAll_below laidOut hb (by kernel_rfl) hA1
  refine (walk x0 b0 x1 b1 x2 (bounds_i64 y2) W).mono fun e W' ⟨he, bel⟩ => ?_
  subst he
  exact ⟨_, rfl, _, _, _, [], _, [], hW', trodAll_mk1 (shut_bool Try.underlying4 _), keep W' bel, rfl, bel.frame _, fun h => by cases h⟩
set_option maxRecDepth 100000 in
set_option maxHeartbeats 8000000 in
theorem closed : joinedFacts Try.prog 9 Try.f9 Rows.fnExactPutTileSpec Rows.fnExactPutTileRow = true := by
  unfold joinedFacts
  refine and2 (and2 (and2 (and2 (and2 (and2 (and2 ?_ Head.mayEnter) ?_) ?_) ?_) ?_) ?_) ?_
  · refine and2 (and2 (and2 (and2 (and2 (and2 (and2 (and2 (and2 (and2 (and2 (and2 (and2 (and2 (and2 ?_ ?_) ?_) ?_) ?_) ?_) ?_) ?_) ?_) ?_) ?_) ?_) ?_) ?_) ?_) ?_
    all_goals (as_aux_lemma => kernel_rfl)
  · rw [Head.liftsFinal]; kernel_rfl
  · rw [Head.make]; kernel_rfl
  all_goals (as_aux_lemma => kernel_rfl)
theorem proved : Rows.FnExactPutTileSaid :=
  OpenClaim.holds_of_wide 9 Try.f9 rfl rfl rfl rfl rfl rfl rfl ⟨rfl, rfl, rfl, rfl, rfl⟩ rfl rfl rfl rfl rfl (by kernel_rfl) Try.func9 closed
    (of_decide_eq_true (by kernel_rfl)) (by unfold Func.isWrapper; first | (rw [if_pos (by decide +kernel)]; kernel_rfl) | (rw [if_neg (by decide +kernel)]; exact ⟨rfl, rfl⟩))
    (fun os started H enc _ => lifted os started H enc)
end fnExactPutTile
theorem fnExactPutTile_holds : Rows.FnExactPutTileSaid := fnExactPutTile.proved
#print axioms fnExactPutTile_holds
end Go.Proofs.Ytjnmdhnckmmdnaa
