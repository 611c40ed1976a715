/-
  Contracts: DoSlides, the reference's.
-/
import Derived.Test.YtjnmdhnckmmdnaaDoSlA
import Derived.Test.YtjnmdhnckmmdnaaSlide2
namespace Go.Proofs.Ytjnmdhnckmmdnaa
open Go.RowKit

def LQ (g k xn : Nat) (w' : World) : Prop := w'.cell? ⟨g, k, none⟩ = some (.int .i64 (xn : Int))
theorem LQ.r {g k xn : Nat} {w' : World} (h : LQ g k xn w') : w'.cell? ⟨g, k, none⟩ = some (.int .i64 (xn : Int)) := h
theorem lq_of {g k xn n : Nat} {w' : World} {x : Nat → Int} (h : Has w' g n (fun o => .int .i64 (x o))) (hk : k < n) (e : Hid (x k = (xn : Int))) : LQ g k xn w' := by
  show _ = some (Value.int .i64 (xn : Int))
  rw [← e.out]; exact h.1 k hk

set_option maxHeartbeats 8000000 in
set_option maxRecDepth 100000 in
theorem l5Made_any (b : Nat → Int) (x : Nat → Int) (g n cap : Nat) (hn : n ≤ 1048576) (hb : bdB b = true) (hd : dirsX x n = true) (w : World) (hH : Has w g n (fun o => .int .i64 (x o))) :
    Calls Try.prog 129 #[.agg #[.int .i64 (b 0), .int .i64 (b 1), .int .i64 (b 2), .int .i64 (b 3), .int .i64 (b 4), .int .i64 (b 5), .int .i64 (b 6), .int .i64 (b 7), .int .i64 (b 8), .int .i64 (b 9), .int .i64 (b 10), .int .i64 (b 11), .int .i64 (b 12), .int .i64 (b 13), .int .i64 (b 14), .int .i64 (b 15)], .slice (some ⟨g, 0, none⟩) n cap] w fun e w' => e = .returned (.tuple #[.agg #[.int .i64 ((slL b (lsX x n)) 0), .int .i64 ((slL b (lsX x n)) 1), .int .i64 ((slL b (lsX x n)) 2), .int .i64 ((slL b (lsX x n)) 3), .int .i64 ((slL b (lsX x n)) 4), .int .i64 ((slL b (lsX x n)) 5), .int .i64 ((slL b (lsX x n)) 6), .int .i64 ((slL b (lsX x n)) 7), .int .i64 ((slL b (lsX x n)) 8), .int .i64 ((slL b (lsX x n)) 9), .int .i64 ((slL b (lsX x n)) 10), .int .i64 ((slL b (lsX x n)) 11), .int .i64 ((slL b (lsX x n)) 12), .int .i64 ((slL b (lsX x n)) 13), .int .i64 ((slL b (lsX x n)) 14), .int .i64 ((slL b (lsX x n)) 15)], .int .i64 (scL b (lsX x n) n)]) ∧ Below w.heap.size w w' := by
  have HS := hide hH
  have HB := hide (bdB_in hb)
  have HL := hide (lsX_dirs hd)
  have HLn := hide (lsX_len x n)
  have HG := hide (fun k (hk : k < n) => lsX_get x hk)
  have HD := hide (fun k (hk : k < n) => inB_03 (dirsX_iff.1 hd k hk))
  have hgl := hH.2.2
  clear hH hd hb
  generalize hl : lsX x n = l at *
  clear hl
  go_enter Try.func129, Try.ntmps129
  go_upto_region 1 with (fail)
  generalize hW : (w.alloc _).alloc _ = w1
  have hB : Below w.heap.size w w1 := by (rw [← hW]; exact (by repeat (first | (with_reducible exact Below.refl _ _) | (with_reducible assumption) | (with_reducible refine below_go ?_ (by with_reducible assumption)) | (with_reducible refine below_new ?_ _) | ((with_reducible refine below_put ?_ ?_ _); rotate_left; (dsimp only; omega)) | (with_reducible refine Below.drew ?_) | (with_reducible refine below_dn ?_ _))))
  have hsz : Hid (w1.heap.size = w.heap.size + 1 + 1) := hide (by rw [← hW]; simp)
  have i0 : Has w1 (w.heap.size) 16 (fun o => .int .i64 (b o)) := by (rw [← hW]; repeat (first | (refine Has.new ?_ rfl; simp; done) | refine Has.alloc ?_ _))
  have ci0 := i0.1; have fi0 := i0.2.1; have zi0 := i0.2.2
  have i1 : Has w1 (w.heap.size + 1) 16 (fun _ => .int .i64 0) := by (rw [← hW]; repeat (first | (refine Has.new ?_ rfl; simp; done) | refine Has.alloc ?_ _))
  have ci1 := i1.1; have fi1 := i1.2.1; have zi1 := i1.2.2
  clear hW
  have i0 : Has w1 w.heap.size 16 (fun o => .int .i64 (slL b (l.take 0) o)) := i0
  clear ci0 fi0 zi0 ci1 fi1 zi1 hsz
  go_wp2_with fail
  go_loopw [6, 7] (fun s v wr => ∃ k : Nat, k ≤ n ∧ v = .int .i64 k ∧ s = .int .i64 (scL b l k) ∧ Below w.heap.size w wr ∧ Has wr w.heap.size 16 (fun o => .int .i64 (slL b (l.take k) o)) ∧ Has wr (w.heap.size + 1) 16 (fun _ => .int .i64 0)) (fun _ i _ => n - (intOf i).toNat)
  case atStart => exact ⟨0, by omega, rfl, rfl, hB, i0, i1⟩
  case round =>
    clear hB i0 i1
    obtain ⟨k, hk, rfl, rfl, hB, i0, i1⟩ := hrel
    obtain ⟨s0, s1⟩ := scL_le HB.out l k
    by_cases hlt : k < n
    · obtain ⟨d0, d1⟩ := HD.out k hlt
      have hgk := HG.out k hlt
      obtain ⟨xn, hxn⟩ : ∃ xn : Nat, x k = (xn : Int) := ⟨(x k).toNat, by omega⟩
      have hx4 : xn < 4 := by omega
      have HGK : Hid (l.getD k 0 = xn) := by rw [hgk, hxn]; rfl
      have HXN : Hid (x k = (xn : Int)) := hxn
      have HI := hide (slL_in HB.out (l.take k))
      have HN : Hid (slL b (l.take (k + 1)) = slB (slL b (l.take k)) xn) := by rw [slL_snoc b l (k := k) (by rw [HLn.out]; exact hlt), HGK.out]; exact hide rfl
      have HSC : Hid (scL b l (k + 1) = scL b l k + scTo (slL b (l.take k)) xn 4) := by show scL b l k + _ = _; rw [HGK.out]
      obtain ⟨e0, e1⟩ := scTo_le (d := xn) HI.out 4 (by omega)
      have hsl := l2Slide_any (slL b (l.take k)) HI.out xn hx4
      generalize hsc : scTo (slL b (l.take k)) xn 4 = sc at *
      generalize hsb : slB (slL b (l.take k)) xn = sb at *
      generalize hcb : slL b (l.take k) = cb at *
      have a1 : (0 : Int) ≤ k := by omega
      have a2 : (k : Int) < n := by omega
      have s2 : scL b l k ≤ 4398046511104 := by omega
      have HSL := hide hsl
      clear hsc hsb hcb hgk hxn d0 d1 s1 hsl
      have zi0 := i0.2.2; have zi1 := i1.2.2
      have iL := HS.out.call hB
      have ziL := iL.2.2
      go_wp2_with fail
      go_cut [8, 9] (fun v8 v9 wx => ∃ B : Nat, v8 = .pointer (some ⟨B, 0, none⟩) ∧ v9 = .int .i64 sc ∧ w.heap.size + 1 < B ∧ Below w.heap.size w wx ∧ Has wx w.heap.size 16 (fun o => .int .i64 (cb o)) ∧ Has wx (w.heap.size + 1) 16 (fun _ => .int .i64 0) ∧ Has wx B 16 (fun o => .int .i64 (sb o)))
      case first =>
        refine wp_region_noPanic ?_
        refine wp_region_held_drew (S := (fun w' => RB w.heap.size cb w' ∧ LQ g k xn w')) (by kernel_rfl) ?hS01 (fun hHeld => ?_)
        case hS01 => exact ⟨rb_of (Has.drew i0), lq_of (Has.drew iL) hlt HXN⟩
        have hB' : Below w.heap.size w (World.drew _) := Below.drew hB
        have iL' := Has.drew iL
        have i0' := Has.drew i0
        have i1' := Has.drew i1
        (try clear ciL); (try clear fiL)
        (try clear ci0); (try clear fi0)
        (try clear ci1); (try clear fi1)
        generalize hWW : World.drew _ = wx at *; clear hWW
        clear hB; have hB := hB'; clear hB'; clear iL ziL; have iL := iL'; clear iL'; have ziL := iL.2.2; clear i0 zi0; have i0 := i0'; clear i0'; have zi0 := i0.2.2; clear i1 zi1; have i1 := i1'; clear i1'; have zi1 := i1.2.2
        refine take_d (i := 0) (some 17) (oi := _) (v := _) rfl rfl (by kernel_rfl) (by kernel_rfl) (by kernel_rfl) (fun _ _ _ h => h) (yieldsIf_load_mid (by rfl) _ _ rfl _ _ rfl _ _ (fun w h => h.1.r) Try.underlying34 rfl (by kernel_rfl)) (by assumption) ?_
        all_goals (try simp only [Act.put, List.setIfInBounds_toArray, List.set_cons_zero, List.set_cons_succ])
        refine take_d (i := 1) (some 18) (v := ?_) rfl rfl (by kernel_rfl) (by kernel_rfl) (by kernel_rfl) (fun _ _ _ h => h) (Or.inl ⟨by rfl, ?_⟩) (by assumption) ?_
        rotate_left; (intro w hSw; have hq := hSw.2.r; clear hSw; go_simp; try with_reducible rfl)
        all_goals (try simp only [Act.put, List.setIfInBounds_toArray, List.set_cons_zero, List.set_cons_succ])
        refine take_d (i := 2) (some 19) (v := ?_) rfl rfl (by kernel_rfl) (by kernel_rfl) (by kernel_rfl) (fun _ _ _ h => h) (Or.inl ⟨by rfl, ?_⟩) (by assumption) ?_
        rotate_left; (intro w hSw; have hq := hSw.2.r; clear hSw; go_simp; try with_reducible rfl)
        all_goals (try simp only [Act.put, List.setIfInBounds_toArray, List.set_cons_zero, List.set_cons_succ])
        refine take_d (i := 3) (some 20) (v := ?_) rfl rfl (by kernel_rfl) (by kernel_rfl) (by kernel_rfl) (fun _ _ _ h => h) (Or.inl ⟨by rfl, ?_⟩) (by assumption) ?_
        rotate_left; (intro w hSw; have hq := hSw.2.r; clear hSw; go_simp; try with_reducible rfl)
        all_goals (try simp only [Act.put, List.setIfInBounds_toArray, List.set_cons_zero, List.set_cons_succ])
        refine take_d (i := 4) (some 21) (v := ?_) rfl rfl (by kernel_rfl) (by kernel_rfl) (by kernel_rfl) (fun _ _ _ h => h) (Or.inl ⟨by rfl, ?_⟩) (by assumption) ?_
        rotate_left; (intro w hSw; have hq := hSw.2.r; clear hSw; go_simp; try with_reducible rfl)
        all_goals (try simp only [Act.put, List.setIfInBounds_toArray, List.set_cons_zero, List.set_cons_succ])
        refine wpAnyH_ready (rs := [5, 9]) (by kernel_rfl) (by simp) ?_
        refine AllReadyH.cons (o := _) rfl (fun K hK => ?_) ?_
        ·
          go_simp
          refine (HSL.out _).mono ?_
          rintro e w2 ⟨rfl, hb2⟩
          (try go_wp2_with fail)
          have hB' : Below w.heap.size w w2 := below_go hB hb2
          have iL' := Has.call iL hb2
          have i0' := Has.call i0 hb2
          have i1' := Has.call i1 hb2
          clear hb2; clear hB; have hB := hB'; clear hB'; clear iL ziL; have iL := iL'; clear iL'; have ziL := iL.2.2; clear i0 zi0; have i0 := i0'; clear i0'; have zi0 := i0.2.2; clear i1 zi1; have i1 := i1'; clear i1'; have zi1 := i1.2.2
          generalize hWW : w2 = wx at *; clear hWW
          refine hK.out _ _ ?hS2 (fun hHeld => ?_)
          case hS2 => exact ⟨rb_of i0, lq_of iL hlt HXN⟩
          clear hK K
          (try simp only [Act.put, List.setIfInBounds_toArray, List.set_cons_zero, List.set_cons_succ])
          refine take_d (i := 6) (some 16) (v := ?_) rfl rfl (by kernel_rfl) (by kernel_rfl) (by kernel_rfl) (fun _ _ _ h => h) (Or.inl ⟨by rfl, ?_⟩) (by assumption) ?_
          rotate_left; (intro w hSw; have hq := hSw.2.r; clear hSw; go_simp; try with_reducible rfl)
          all_goals (try simp only [Act.put, List.setIfInBounds_toArray, List.set_cons_zero, List.set_cons_succ])
          refine take_d (i := 7) (some 23) (v := ?_) rfl rfl (by kernel_rfl) (by kernel_rfl) (by kernel_rfl) (fun _ _ _ h => h) (Or.inl ⟨by rfl, ?_⟩) (by assumption) ?_
          rotate_left; (intro w hSw; have hq := hSw.2.r; clear hSw; go_simp; try with_reducible rfl)
          all_goals (try simp only [Act.put, List.setIfInBounds_toArray, List.set_cons_zero, List.set_cons_succ])
          refine take_d (i := 8) (some 24) (v := ?_) rfl rfl (by kernel_rfl) (by kernel_rfl) (by kernel_rfl) (fun _ _ _ h => h) (Or.inl ⟨by rfl, ?_⟩) (by assumption) ?_
          rotate_left; (intro w hSw; have hq := hSw.2.r; clear hSw; go_simp; try with_reducible rfl)
          all_goals (try simp only [Act.put, List.setIfInBounds_toArray, List.set_cons_zero, List.set_cons_succ])
          refine wpAnyH_ready (rs := [9]) (by kernel_rfl) (by simp) ?_
          refine AllReadyH.cons (o := _) rfl (fun K hK => ?_) ?_
          ·
            go_simp
            generalize hW : World.alloc _ _ = w2
            have hB' : Below w.heap.size w w2 := by (rw [← hW]; exact below_new hB _)
            have iL' := Has.at hW (Has.alloc iL _)
            have i0' := Has.at hW (Has.alloc i0 _)
            have i1' := Has.at hW (Has.alloc i1 _)
            have jn := Has.newat (n := 16) hW rfl
            clear hW; have zn := zi1; clear hB; have hB := hB'; clear hB'; clear iL ziL; have iL := iL'; clear iL'; have ziL := iL.2.2; clear i0 zi0; have i0 := i0'; clear i0'; have zi0 := i0.2.2; clear i1 zi1; have i1 := i1'; clear i1'; have zi1 := i1.2.2
            generalize hS : (World.heap wx).size = Bn at *
            clear hS; generalize hWW : w2 = wx at *; clear hWW
            refine hK.out _ _ ?hS3 (fun hHeld => ?_)
            case hS3 => exact ⟨rb_of i0, lq_of iL hlt HXN⟩
            clear hK K
            (try simp only [Act.put, List.setIfInBounds_toArray, List.set_cons_zero, List.set_cons_succ])
            refine wpAnyH_ready (rs := [10]) (by kernel_rfl) (by simp) ?_
            refine AllReadyH.cons (o := _) rfl (fun K hK => ?_) ?_
            ·
              rw [if_pos (by rfl)]
              refine wp_store_BoardF _ _ rfl _ _ rfl rfl rfl jn ?_
              intro w3 ho3 hn3
              have hB' : Below w.heap.size w w3 := below_only hB ho3 (by omega)
              have iL' := Has.only iL ho3 (by omega)
              have i0' := Has.only i0 ho3 (by omega)
              have i1' := Has.only i1 ho3 (by omega)
              clear jn ho3; have jn := hn3; clear hn3; clear hB; have hB := hB'; clear hB'; clear iL ziL; have iL := iL'; clear iL'; have ziL := iL.2.2; clear i0 zi0; have i0 := i0'; clear i0'; have zi0 := i0.2.2; clear i1 zi1; have i1 := i1'; clear i1'; have zi1 := i1.2.2
              generalize hWW : w3 = wx at *; clear hWW
              refine hK.out _ _ ?hS4 (fun hHeld => ?_)
              case hS4 => exact ⟨rb_of i0, lq_of iL hlt HXN⟩
              clear hK K
              (try simp only [Act.put, List.setIfInBounds_toArray, List.set_cons_zero, List.set_cons_succ])
              refine take_d (i := 11) (some 9) (v := ?_) rfl rfl (by kernel_rfl) (by kernel_rfl) (by kernel_rfl) (fun _ _ _ h => h) (Or.inl ⟨by rfl, ?_⟩) (by assumption) ?_
              rotate_left; (intro w hSw; have hq := hSw.2.r; clear hSw; go_simp; try with_reducible rfl)
              all_goals (try simp only [Act.put, List.setIfInBounds_toArray, List.set_cons_zero, List.set_cons_succ])
              refine wpAnyH_done (by kernel_rfl) ?_ _
              refine NoPanic.normal ?_
              go_wp2
              go_meet
              case rel => exact ⟨_, rfl, rfl, zn, hB, i0, i1, jn⟩
            exact AllReadyH.nil
          exact AllReadyH.nil
        refine AllReadyH.cons (o := _) rfl (fun K hK => ?_) ?_
        ·
          go_simp
          generalize hW : World.alloc _ _ = w2
          have hB' : Below w.heap.size w w2 := by (rw [← hW]; exact below_new hB _)
          have iL' := Has.at hW (Has.alloc iL _)
          have i0' := Has.at hW (Has.alloc i0 _)
          have i1' := Has.at hW (Has.alloc i1 _)
          have jn := Has.newat (n := 16) hW rfl
          clear hW; have zn := zi1; clear hB; have hB := hB'; clear hB'; clear iL ziL; have iL := iL'; clear iL'; have ziL := iL.2.2; clear i0 zi0; have i0 := i0'; clear i0'; have zi0 := i0.2.2; clear i1 zi1; have i1 := i1'; clear i1'; have zi1 := i1.2.2
          generalize hS : (World.heap wx).size = Bn at *
          clear hS; generalize hWW : w2 = wx at *; clear hWW
          refine hK.out _ _ ?hS5 (fun hHeld => ?_)
          case hS5 => exact ⟨rb_of i0, lq_of iL hlt HXN⟩
          clear hK K
          (try simp only [Act.put, List.setIfInBounds_toArray, List.set_cons_zero, List.set_cons_succ])
          refine wpAnyH_ready (rs := [5]) (by kernel_rfl) (by simp) ?_
          refine AllReadyH.cons (o := _) rfl (fun K hK => ?_) ?_
          ·
            go_simp
            refine (HSL.out _).mono ?_
            rintro e w2 ⟨rfl, hb2⟩
            (try go_wp2_with fail)
            have hB' : Below w.heap.size w w2 := below_go hB hb2
            have iL' := Has.call iL hb2
            have i0' := Has.call i0 hb2
            have i1' := Has.call i1 hb2
            have jn' := Has.call jn hb2; clear jn; have jn := jn'; clear jn'
            clear hb2; clear hB; have hB := hB'; clear hB'; clear iL ziL; have iL := iL'; clear iL'; have ziL := iL.2.2; clear i0 zi0; have i0 := i0'; clear i0'; have zi0 := i0.2.2; clear i1 zi1; have i1 := i1'; clear i1'; have zi1 := i1.2.2
            generalize hWW : w2 = wx at *; clear hWW
            refine hK.out _ _ ?hS6 (fun hHeld => ?_)
            case hS6 => exact ⟨rb_of i0, lq_of iL hlt HXN⟩
            clear hK K
            (try simp only [Act.put, List.setIfInBounds_toArray, List.set_cons_zero, List.set_cons_succ])
            refine take_d (i := 6) (some 16) (v := ?_) rfl rfl (by kernel_rfl) (by kernel_rfl) (by kernel_rfl) (fun _ _ _ h => h) (Or.inl ⟨by rfl, ?_⟩) (by assumption) ?_
            rotate_left; (intro w hSw; have hq := hSw.2.r; clear hSw; go_simp; try with_reducible rfl)
            all_goals (try simp only [Act.put, List.setIfInBounds_toArray, List.set_cons_zero, List.set_cons_succ])
            refine take_d (i := 7) (some 23) (v := ?_) rfl rfl (by kernel_rfl) (by kernel_rfl) (by kernel_rfl) (fun _ _ _ h => h) (Or.inl ⟨by rfl, ?_⟩) (by assumption) ?_
            rotate_left; (intro w hSw; have hq := hSw.2.r; clear hSw; go_simp; try with_reducible rfl)
            all_goals (try simp only [Act.put, List.setIfInBounds_toArray, List.set_cons_zero, List.set_cons_succ])
            refine take_d (i := 8) (some 24) (v := ?_) rfl rfl (by kernel_rfl) (by kernel_rfl) (by kernel_rfl) (fun _ _ _ h => h) (Or.inl ⟨by rfl, ?_⟩) (by assumption) ?_
            rotate_left; (intro w hSw; have hq := hSw.2.r; clear hSw; go_simp; try with_reducible rfl)
            all_goals (try simp only [Act.put, List.setIfInBounds_toArray, List.set_cons_zero, List.set_cons_succ])
            refine wpAnyH_ready (rs := [10]) (by kernel_rfl) (by simp) ?_
            refine AllReadyH.cons (o := _) rfl (fun K hK => ?_) ?_
            ·
              rw [if_pos (by rfl)]
              refine wp_store_BoardF _ _ rfl _ _ rfl rfl rfl jn ?_
              intro w3 ho3 hn3
              have hB' : Below w.heap.size w w3 := below_only hB ho3 (by omega)
              have iL' := Has.only iL ho3 (by omega)
              have i0' := Has.only i0 ho3 (by omega)
              have i1' := Has.only i1 ho3 (by omega)
              clear jn ho3; have jn := hn3; clear hn3; clear hB; have hB := hB'; clear hB'; clear iL ziL; have iL := iL'; clear iL'; have ziL := iL.2.2; clear i0 zi0; have i0 := i0'; clear i0'; have zi0 := i0.2.2; clear i1 zi1; have i1 := i1'; clear i1'; have zi1 := i1.2.2
              generalize hWW : w3 = wx at *; clear hWW
              refine hK.out _ _ ?hS7 (fun hHeld => ?_)
              case hS7 => exact ⟨rb_of i0, lq_of iL hlt HXN⟩
              clear hK K
              (try simp only [Act.put, List.setIfInBounds_toArray, List.set_cons_zero, List.set_cons_succ])
              refine take_d (i := 11) (some 9) (v := ?_) rfl rfl (by kernel_rfl) (by kernel_rfl) (by kernel_rfl) (fun _ _ _ h => h) (Or.inl ⟨by rfl, ?_⟩) (by assumption) ?_
              rotate_left; (intro w hSw; have hq := hSw.2.r; clear hSw; go_simp; try with_reducible rfl)
              all_goals (try simp only [Act.put, List.setIfInBounds_toArray, List.set_cons_zero, List.set_cons_succ])
              refine wpAnyH_done (by kernel_rfl) ?_ _
              refine NoPanic.normal ?_
              go_wp2
              go_meet
              case rel => exact ⟨_, rfl, rfl, zn, hB, i0, i1, jn⟩
            exact AllReadyH.nil
          exact AllReadyH.nil
        exact AllReadyH.nil
      case rest =>
        clear hB i0 i1 zi0 zi1 iL ziL
        obtain ⟨B2, rfl, rfl, hz2, hB, i0, i1, j0⟩ := hcut
        have zi0 := i0.2.2; have zi1 := i1.2.2; have zj0 := j0.2.2
        go_wp2_with (first | (refine load_Board rfl _ rfl _ _ rfl (by repeat (first | (with_reducible assumption) | (with_reducible apply Has.set) | ((with_reducible apply Has.other); (case hne => (dsimp only; omega))) | (with_reducible apply Has.alloc) | (with_reducible apply Has.drew) | (with_reducible apply Has.drewN))) (by omega) ?_) | (refine store_BoardF rfl _ _ rfl _ _ rfl rfl (by repeat (first | (with_reducible assumption) | (with_reducible apply Has.set) | ((with_reducible apply Has.other); (case hne => (dsimp only; omega))) | (with_reducible apply Has.alloc) | (with_reducible apply Has.drew) | (with_reducible apply Has.drewN))) ?_; intro w3 ho3 hn3; have hB' : Below w.heap.size w w3 := below_only (by repeat (first | (with_reducible exact Below.refl _ _) | (with_reducible assumption) | (with_reducible refine below_go ?_ (by with_reducible assumption)) | (with_reducible refine below_new ?_ _) | ((with_reducible refine below_put ?_ ?_ _); rotate_left; (dsimp only; omega)) | (with_reducible refine Below.drew ?_) | (with_reducible refine below_dn ?_ _))) ho3 (by omega); have i0' : Has w3 (w.heap.size) 16 _ := (by first | (with_reducible exact hn3) | exact Has.only (by repeat (first | (with_reducible assumption) | (with_reducible apply Has.set) | ((with_reducible apply Has.other); (case hne => (dsimp only; omega))) | (with_reducible apply Has.alloc) | (with_reducible apply Has.drew) | (with_reducible apply Has.drewN))) ho3 (by omega)); have i1' : Has w3 (w.heap.size + 1) 16 _ := (by first | (with_reducible exact hn3) | exact Has.only (by repeat (first | (with_reducible assumption) | (with_reducible apply Has.set) | ((with_reducible apply Has.other); (case hne => (dsimp only; omega))) | (with_reducible apply Has.alloc) | (with_reducible apply Has.drew) | (with_reducible apply Has.drewN))) ho3 (by omega)); have j0' : Has w3 (B2) 16 _ := (by first | (with_reducible exact hn3) | exact Has.only (by repeat (first | (with_reducible assumption) | (with_reducible apply Has.set) | ((with_reducible apply Has.other); (case hne => (dsimp only; omega))) | (with_reducible apply Has.alloc) | (with_reducible apply Has.drew) | (with_reducible apply Has.drewN))) ho3 (by omega)); clear ho3 hn3; clear hB; have hB := hB'; clear hB'; (try clear fi0); (try clear zi0); (try clear ci0); clear i0; have i0 := i0'; clear i0'; have ci0 := i0.1; have fi0 := i0.2.1; have zi0 := i0.2.2; (try clear fi1); (try clear zi1); (try clear ci1); clear i1; have i1 := i1'; clear i1'; have ci1 := i1.1; have fi1 := i1.2.1; have zi1 := i1.2.2; (try clear fj0); (try clear zj0); (try clear cj0); clear j0; have j0 := j0'; clear j0'; have cj0 := j0.1; have fj0 := j0.2.1; have zj0 := j0.2.2))
        go_roundw
        case rel => exact ⟨k + 1, by omega, by go_num, by rw [HSC.out], hB, by rw [HN.out]; exact i0, i1⟩
        case measure => simp [intOf]; omega
    · obtain rfl : k = n := by omega
      have i0 : Has wr w.heap.size 16 (fun o => .int .i64 (slL b l o)) := by rw [← HLn.out, List.take_length] at i0; exact i0
      have zi0 := i0.2.2; have zi1 := i1.2.2
      go_wp2_with (first | (refine load_Board rfl _ rfl _ _ rfl (by repeat (first | (with_reducible assumption) | (with_reducible apply Has.set) | ((with_reducible apply Has.other); (case hne => (dsimp only; omega))) | (with_reducible apply Has.alloc) | (with_reducible apply Has.drew) | (with_reducible apply Has.drewN))) (by omega) ?_) | (refine store_BoardF rfl _ _ rfl _ _ rfl rfl (by repeat (first | (with_reducible assumption) | (with_reducible apply Has.set) | ((with_reducible apply Has.other); (case hne => (dsimp only; omega))) | (with_reducible apply Has.alloc) | (with_reducible apply Has.drew) | (with_reducible apply Has.drewN))) ?_; intro w3 ho3 hn3; have hB' : Below w.heap.size w w3 := below_only (by repeat (first | (with_reducible exact Below.refl _ _) | (with_reducible assumption) | (with_reducible refine below_go ?_ (by with_reducible assumption)) | (with_reducible refine below_new ?_ _) | ((with_reducible refine below_put ?_ ?_ _); rotate_left; (dsimp only; omega)) | (with_reducible refine Below.drew ?_) | (with_reducible refine below_dn ?_ _))) ho3 (by omega); have i0' : Has w3 (w.heap.size) 16 _ := (by first | (with_reducible exact hn3) | exact Has.only (by repeat (first | (with_reducible assumption) | (with_reducible apply Has.set) | ((with_reducible apply Has.other); (case hne => (dsimp only; omega))) | (with_reducible apply Has.alloc) | (with_reducible apply Has.drew) | (with_reducible apply Has.drewN))) ho3 (by omega)); have i1' : Has w3 (w.heap.size + 1) 16 _ := (by first | (with_reducible exact hn3) | exact Has.only (by repeat (first | (with_reducible assumption) | (with_reducible apply Has.set) | ((with_reducible apply Has.other); (case hne => (dsimp only; omega))) | (with_reducible apply Has.alloc) | (with_reducible apply Has.drew) | (with_reducible apply Has.drewN))) ho3 (by omega)); clear ho3 hn3; clear hB; have hB := hB'; clear hB'; (try clear fi0); (try clear zi0); (try clear ci0); clear i0; have i0 := i0'; clear i0'; have ci0 := i0.1; have fi0 := i0.2.1; have zi0 := i0.2.2; (try clear fi1); (try clear zi1); (try clear ci1); clear i1; have i1 := i1'; clear i1'; have ci1 := i1.1; have fi1 := i1.2.1; have zi1 := i1.2.2))
      refine bodyPost_ret (results_cell_t rfl rfl (loadVar_Board i1 (by omega))) rfl ⟨rfl, (by repeat (first | (with_reducible exact Below.refl _ _) | (with_reducible assumption) | (with_reducible refine below_go ?_ (by with_reducible assumption)) | (with_reducible refine below_new ?_ _) | ((with_reducible refine below_put ?_ ?_ _); rotate_left; (dsimp only; omega)) | (with_reducible refine Below.drew ?_) | (with_reducible refine below_dn ?_ _)))⟩

end Go.Proofs.Ytjnmdhnckmmdnaa
