/-
  Contract: a board put to its place among others (the reference's l3Add).
-/
import Derived.Test.YtmbmknpjmkgjlaaRsW
namespace Go.Proofs.Ytmbmknpjmkgjlaa
open Go.RowKit

theorem ltB_pl {l : List (Nat → Int)} {b : Nat → Int} {i : Nat} (h : i < plO ltR l b) : ltR (atR l i) b = true := by
  have hlt : i < l.length := Nat.lt_of_lt_of_le h (plO_le l b)
  refine plO_lt l b i _ h ?_
  rw [List.getElem?_eq_getElem hlt]; simp [atR, hlt]
theorem ltB_pl_at {l : List (Nat → Int)} {b : Nat → Int} (h : plO ltR l b < l.length) : ltR (atR l (plO ltR l b)) b = false := by
  refine plO_at l b _ ?_
  rw [List.getElem?_eq_getElem h]; simp [atR, h]
theorem ad_same {l : List (Nat → Int)} {b : Nat → Int} (h : plO ltR l b < l.length) (he : eqR (atR l (plO ltR l b)) b = true) : adO ltR eqR l b = l := by
  refine adO_in l b _ ?_ he
  rw [List.getElem?_eq_getElem h]; simp [atR, h]
theorem ad_more {l : List (Nat → Int)} {b : Nat → Int} (h : plO ltR l b < l.length → eqR (atR l (plO ltR l b)) b = false) : adO ltR eqR l b = l.take (plO ltR l b) ++ b :: l.drop (plO ltR l b) := by
  refine adO_out l b fun x hx => ?_
  have hlt := (List.getElem?_eq_some_iff.1 hx).1
  rw [List.getElem?_eq_getElem hlt] at hx
  have := h hlt
  rw [← this]
  congr 1
  simp [atR, hlt] at hx ⊢
  exact hx.symm

theorem slice_hi {p : Prop} [Decidable p] {a b : Option Addr} {m c : Nat} (h : ¬ p) : Value.slice (if p then a else b) m c = .slice b m c := by rw [if_neg h]
theorem slice_no {p : Prop} [Decidable p] {a b : Addr} {m c : Nat} : Value.slice (if p then some a else some b) m c = .slice (some (if p then a else b)) m c := by split <;> rfl

theorem ad_own {w : World} {base : Nat} {v : Value} {l : List (Nat → Int)} {b : Nat → Int} {i k : Nat} (h : w.ownsRow base 22 4 v (0 + i + 1 + (k - i)) (rsV [] ++ rsV (l.take i) ++ c4 b ++ rsV (l.drop i))) (hm : adO ltR eqR l b = l.take i ++ b :: l.drop i) (hk : l.length = k) (hi : i ≤ k) :
    w.ownsRow base 22 4 v (adO ltR eqR l b).length (rsV (adO ltR eqR l b)) := by
  have e : rsV [] ++ rsV (l.take i) ++ c4 b ++ rsV (l.drop i) = rsV (adO ltR eqR l b) := by
    rw [hm, rsV_app, rsV_cons, ← List.append_assoc]; rfl
  have en : 0 + i + 1 + (k - i) = (adO ltR eqR l b).length := by
    rw [hm, List.length_append, List.length_cons, List.length_take, List.length_drop]; omega
  rw [e, en] at h
  exact h
theorem ad_own0 {w : World} {base : Nat} {v : Value} {l : List (Nat → Int)} {b : Nat → Int} {i m : Nat} (h : w.ownsRow base 22 4 v (0 + i + 1 + m) (rsV [] ++ rsV (l.take i) ++ c4 b ++ [])) (hm : adO ltR eqR l b = l.take i ++ b :: l.drop i) (hk : l.length = i) (_ : i ≤ i) :
    w.ownsRow base 22 4 v (adO ltR eqR l b).length (rsV (adO ltR eqR l b)) := by
  have hm0 : m = 0 := by
    have := h.1
    simp only [List.length_append, rsV_len, List.length_take, List.length_nil, hk] at this
    simp [c4] at this
    omega
  subst hm0
  have ed : l.drop i = [] := List.drop_eq_nil_of_le (by omega)
  have h2 := ad_own (l := l) (b := b) (i := i) (k := i) (v := v) (w := w) (base := base) (by rw [ed]; simpa [rsV] using h) hm hk (Nat.le_refl _)
  exact h2

theorem Calls.bool_as {P : Program} {f : FuncId} {args : Array Value} {w : World} {a b : Bool} (h : Calls P f args w fun e w' => e = .returned (.bool a) ∧ Below w.heap.size w w') (e : a = b) : Calls P f args w fun e w' => e = .returned (.bool b) ∧ Below w.heap.size w w' := e ▸ h

set_option maxHeartbeats 4000000 in
set_option maxRecDepth 100000 in
theorem l4Less_any (b d : Nat → Int) (w : World) : Calls Try.prog 90 #[.agg #[.int .i64 (b 0), .int .i64 (b 1), .int .i64 (b 2), .int .i64 (b 3)], .agg #[.int .i64 (d 0), .int .i64 (d 1), .int .i64 (d 2), .int .i64 (d 3)]] w fun e w' => e = .returned (.bool (ltR b d)) ∧ Below w.heap.size w w' := by
  go_enter Try.func90, Try.ntmps90
  go_wp2_with (first | (rw [rounds_succ]) | (with_reducible refine wp_loop_rounds 5 ?_) | (go_quiet (fail)))
  all_goals
    go_ret
    refine ⟨ret_bool ?_, (by repeat (first | (with_reducible exact Below.refl _ _) | (with_reducible assumption) | (with_reducible refine below_go ?_ (by with_reducible assumption)) | (with_reducible refine below_new ?_ _) | ((with_reducible refine below_put ?_ ?_ _); rotate_left; (dsimp only; omega)) | (with_reducible refine Below.drew ?_) | (with_reducible refine below_dn ?_ _)))⟩
    simp_all [ltR]

set_option maxHeartbeats 8000000 in
set_option maxRecDepth 100000 in
theorem l4Place_any (l : List (Nat → Int)) (hl : l.length ≤ 65536) (g cap : Nat) (b : Nat → Int) (w : World) (hL : Has w g (l.length * 4) (rsC l)) :
    Calls Try.prog 85 #[.slice (some ⟨g, 0, none⟩) l.length cap, .agg #[.int .i64 (b 0), .int .i64 (b 1), .int .i64 (b 2), .int .i64 (b 3)]] w fun e w' => e = .returned (.int .i64 (plO ltR l b : Nat)) ∧ Below w.heap.size w w' := by
  obtain ⟨n, hn⟩ : ∃ n, n = plO ltR l b := ⟨_, rfl⟩
  have hnl : n ≤ l.length := hn ▸ plO_le l b
  have HLT := hide (fun i (h : i < n) => ltB_pl (hn ▸ h))
  have HAT := hide (fun (h : n < l.length) => hn ▸ ltB_pl_at (hn ▸ h))
  have HS := hide hL
  rw [← hn]
  clear hL hn
  generalize hk : l.length = k at *
  clear hk
  go_enter Try.func85, Try.ntmps85
  go_upto_region 1 with (fail)
  generalize hW : w.alloc _ = w1
  have hB : Below w.heap.size w w1 := by (rw [← hW]; exact (by repeat (first | (with_reducible exact Below.refl _ _) | (with_reducible assumption) | (with_reducible refine below_go ?_ (by with_reducible assumption)) | (with_reducible refine below_new ?_ _) | ((with_reducible refine below_put ?_ ?_ _); rotate_left; (dsimp only; omega)) | (with_reducible refine Below.drew ?_) | (with_reducible refine below_dn ?_ _))))
  have hsz : Hid (w1.heap.size = w.heap.size + 1) := hide (by rw [← hW]; simp)
  have i0 : Has w1 (w.heap.size) 4 (fun o => .int .i64 (b o)) := by (rw [← hW]; repeat (first | (refine Has.new ?_ rfl; simp; done) | refine Has.alloc ?_ _))
  have ci0 := i0.1; have fi0 := i0.2.1; have zi0 := i0.2.2
  clear hW
  clear ci0 fi0 zi0 hsz
  go_wp2_with fail
  go_loopw [5] (fun v wr => ∃ i : Nat, i ≤ n ∧ v = .int .i64 i ∧ Below w.heap.size w wr ∧ Has wr w.heap.size 4 (fun o => .int .i64 (b o))) (fun i _ => n - (intOf i).toNat)
  case atStart => exact ⟨0, by omega, rfl, hB, i0⟩
  case round =>
    clear hB i0
    obtain ⟨i, hi, rfl, hB, i0⟩ := hrel
    have a0 : (0 : Int) ≤ i := by omega
    have iL := HS.out.call hB
    have ziL := iL.2.2
    have zi0 := i0.2.2
    by_cases hlt : i < n
    · have a1 : (i : Int) < k := by omega
      have hc := HLT.out i hlt
      go_wp2_with fail
      refine wp_region_noPanic ?_
      refine wp_region_held_drew (S := (fun w' => RR w.heap.size b w' ∧ RRo g i (atR l i) w')) (by kernel_rfl) ?hS01 (fun hHeld => ?_)
      case hS01 => exact ⟨rr_of (Has.drew i0), rro_of (Has.drew iL) (by omega)⟩
      have hB' : Below w.heap.size w (World.drew _) := Below.drew hB
      have iL' := Has.drew iL
      have i0' := Has.drew i0
      (try clear ciL); (try clear fiL)
      (try clear ci0); (try clear fi0)
      generalize hWW : World.drew _ = wx at *; clear hWW
      clear hB; have hB := hB'; clear hB'; clear iL ziL; have iL := iL'; clear iL'; have ziL := iL.2.2; clear i0 zi0; have i0 := i0'; clear i0'; have zi0 := i0.2.2
      refine take_d (i := 0) (some 6) (v := ?_) rfl rfl (by kernel_rfl) (by kernel_rfl) (by kernel_rfl) (fun _ _ _ h => h) (Or.inl ⟨by rfl, ?_⟩) (by assumption) ?_
      rotate_left; (intro w hSw; clear hSw; go_simp; try with_reducible rfl)
      all_goals (try simp only [Act.put, List.setIfInBounds_toArray, List.set_cons_zero, List.set_cons_succ])
      refine take_d (i := 1) (some 7) (v := ?_) rfl rfl (by kernel_rfl) (by kernel_rfl) (by kernel_rfl) (fun _ _ _ h => h) (Or.inl ⟨by rfl, ?_⟩) (by assumption) ?_
      rotate_left; (intro w hSw; clear hSw; go_simp; try with_reducible rfl)
      all_goals (try simp only [Act.put, List.setIfInBounds_toArray, List.set_cons_zero, List.set_cons_succ])
      refine take_d (i := 2) (some 8) (v := ?_) rfl rfl (by kernel_rfl) (by kernel_rfl) (by kernel_rfl) (fun _ _ _ h => h) (Or.inl ⟨by rfl, ?_⟩) (by assumption) ?_
      rotate_left; (intro w hSw; clear hSw; go_simp; try with_reducible rfl)
      all_goals (try simp only [Act.put, List.setIfInBounds_toArray, List.set_cons_zero, List.set_cons_succ])
      refine take_d (i := 3) (some 9) (v := ?_) rfl rfl (by kernel_rfl) (by kernel_rfl) (by kernel_rfl) (fun _ _ _ h => h) (Or.inl ⟨by rfl, ?_⟩) (by assumption) ?_
      rotate_left; (intro w hSw; clear hSw; go_simp; try with_reducible rfl)
      all_goals (try simp only [Act.put, List.setIfInBounds_toArray, List.set_cons_zero, List.set_cons_succ])
      refine take_d (i := 4) (some 10) (v := ?_) rfl rfl (by kernel_rfl) (by kernel_rfl) (by kernel_rfl) (fun _ _ _ h => h) (Or.inl ⟨by rfl, ?_⟩) (by assumption) ?_
      rotate_left; (intro w hSw; clear hSw; go_simp; try with_reducible rfl)
      all_goals (try simp only [Act.put, List.setIfInBounds_toArray, List.set_cons_zero, List.set_cons_succ])
      refine take_d (i := 5) (some 11) (v := ?_) rfl rfl (by kernel_rfl) (by kernel_rfl) (by kernel_rfl) (fun _ _ _ h => h) (Or.inl ⟨by rfl, ?_⟩) (by assumption) ?_
      rotate_left; (intro w hSw; clear hSw; go_simp; try with_reducible rfl)
      all_goals (try simp only [Act.put, List.setIfInBounds_toArray, List.set_cons_zero, List.set_cons_succ])
      refine take_d (i := 6) (some 12) (v := ?_) rfl rfl (by kernel_rfl) (by kernel_rfl) (by kernel_rfl) (fun _ _ _ h => h) (Or.inl ⟨by rfl, ?_⟩) (by assumption) ?_
      rotate_left; (intro w hSw; clear hSw; go_simp; try with_reducible rfl)
      all_goals (try simp only [Act.put, List.setIfInBounds_toArray, List.set_cons_zero, List.set_cons_succ])
      refine take_d (i := 7) (some 13) (v := ?_) rfl rfl (by kernel_rfl) (by kernel_rfl) (by kernel_rfl) (fun _ _ _ h => h) (Or.inl ⟨by rfl, ?_⟩) (by assumption) ?_
      rotate_left; (intro w hSw; clear hSw; go_simp; try with_reducible rfl)
      all_goals (try simp only [Act.put, List.setIfInBounds_toArray, List.set_cons_zero, List.set_cons_succ])
      refine take_d (i := 8) (some 14) (oi := _) (v := _) rfl rfl (by kernel_rfl) (by kernel_rfl) (by kernel_rfl) (fun _ _ _ h => h) (yieldsIf_load_mid (by rfl) _ _ rfl _ _ rfl _ _ (fun w h => h.2.r) Try.underlying22 rfl (by kernel_rfl)) (by assumption) ?_
      all_goals (try simp only [Act.put, List.setIfInBounds_toArray, List.set_cons_zero, List.set_cons_succ])
      refine take_d (i := 9) (some 15) (oi := _) (v := _) rfl rfl (by kernel_rfl) (by kernel_rfl) (by kernel_rfl) (fun _ _ _ h => h) (yieldsIf_load_mid (by rfl) _ _ rfl _ _ rfl _ _ (fun w h => h.1.r) Try.underlying22 rfl (by kernel_rfl)) (by assumption) ?_
      all_goals (try simp only [Act.put, List.setIfInBounds_toArray, List.set_cons_zero, List.set_cons_succ])
      refine wpAnyH_ready (rs := [10]) (by kernel_rfl) (by simp) ?_
      refine AllReadyH.cons (o := _) rfl (fun K hK => ?_) ?_
      ·
        go_simp
        refine (Calls.bool_as (l4Less_any (atR l i) b _) hc).mono ?_
        rintro e w2 ⟨rfl, hb2⟩
        (try go_wp2_with fail)
        have hB' : Below w.heap.size w w2 := below_go hB hb2
        have iL' := Has.call iL hb2
        have i0' := Has.call i0 hb2
        clear hb2; clear hB; have hB := hB'; clear hB'; clear iL ziL; have iL := iL'; clear iL'; have ziL := iL.2.2; clear i0 zi0; have i0 := i0'; clear i0'; have zi0 := i0.2.2
        generalize hWW : w2 = wx at *; clear hWW
        refine hK.out _ _ ?hS2 (fun hHeld => ?_)
        case hS2 => exact ⟨rr_of i0, rro_of iL (by omega)⟩
        clear hK K
        (try simp only [Act.put, List.setIfInBounds_toArray, List.set_cons_zero, List.set_cons_succ])
        refine take_d (i := 11) (some 17) (v := ?_) rfl rfl (by kernel_rfl) (by kernel_rfl) (by kernel_rfl) (fun _ _ _ h => h) (Or.inl ⟨by rfl, ?_⟩) (by assumption) ?_
        rotate_left; (intro w hSw; clear hSw; go_simp; try with_reducible rfl)
        all_goals (try simp only [Act.put, List.setIfInBounds_toArray, List.set_cons_zero, List.set_cons_succ])
        refine wpAnyH_done (by kernel_rfl) ?_ _
        (try refine NoPanic.normal ?_)
        go_wp2
        go_roundw
        case rel => exact ⟨i + 1, by omega, by go_num, hB, i0⟩
        case measure => (simp [intOf]; omega)
      exact AllReadyH.nil
    · obtain rfl : i = n := by omega
      by_cases hnk : i < k
      · have a1 : (i : Int) < k := by omega
        have hc := HAT.out hnk
        go_wp2_with fail
        refine wp_region_noPanic ?_
        refine wp_region_held_drew (S := (fun w' => RR w.heap.size b w' ∧ RRo g i (atR l i) w')) (by kernel_rfl) ?hS03 (fun hHeld => ?_)
        case hS03 => exact ⟨rr_of (Has.drew i0), rro_of (Has.drew iL) (by omega)⟩
        have hB' : Below w.heap.size w (World.drew _) := Below.drew hB
        have iL' := Has.drew iL
        have i0' := Has.drew i0
        (try clear ciL); (try clear fiL)
        (try clear ci0); (try clear fi0)
        generalize hWW : World.drew _ = wx at *; clear hWW
        clear hB; have hB := hB'; clear hB'; clear iL ziL; have iL := iL'; clear iL'; have ziL := iL.2.2; clear i0 zi0; have i0 := i0'; clear i0'; have zi0 := i0.2.2
        refine take_d (i := 0) (some 6) (v := ?_) rfl rfl (by kernel_rfl) (by kernel_rfl) (by kernel_rfl) (fun _ _ _ h => h) (Or.inl ⟨by rfl, ?_⟩) (by assumption) ?_
        rotate_left; (intro w hSw; clear hSw; go_simp; try with_reducible rfl)
        all_goals (try simp only [Act.put, List.setIfInBounds_toArray, List.set_cons_zero, List.set_cons_succ])
        refine take_d (i := 1) (some 7) (v := ?_) rfl rfl (by kernel_rfl) (by kernel_rfl) (by kernel_rfl) (fun _ _ _ h => h) (Or.inl ⟨by rfl, ?_⟩) (by assumption) ?_
        rotate_left; (intro w hSw; clear hSw; go_simp; try with_reducible rfl)
        all_goals (try simp only [Act.put, List.setIfInBounds_toArray, List.set_cons_zero, List.set_cons_succ])
        refine take_d (i := 2) (some 8) (v := ?_) rfl rfl (by kernel_rfl) (by kernel_rfl) (by kernel_rfl) (fun _ _ _ h => h) (Or.inl ⟨by rfl, ?_⟩) (by assumption) ?_
        rotate_left; (intro w hSw; clear hSw; go_simp; try with_reducible rfl)
        all_goals (try simp only [Act.put, List.setIfInBounds_toArray, List.set_cons_zero, List.set_cons_succ])
        refine take_d (i := 3) (some 9) (v := ?_) rfl rfl (by kernel_rfl) (by kernel_rfl) (by kernel_rfl) (fun _ _ _ h => h) (Or.inl ⟨by rfl, ?_⟩) (by assumption) ?_
        rotate_left; (intro w hSw; clear hSw; go_simp; try with_reducible rfl)
        all_goals (try simp only [Act.put, List.setIfInBounds_toArray, List.set_cons_zero, List.set_cons_succ])
        refine take_d (i := 4) (some 10) (v := ?_) rfl rfl (by kernel_rfl) (by kernel_rfl) (by kernel_rfl) (fun _ _ _ h => h) (Or.inl ⟨by rfl, ?_⟩) (by assumption) ?_
        rotate_left; (intro w hSw; clear hSw; go_simp; try with_reducible rfl)
        all_goals (try simp only [Act.put, List.setIfInBounds_toArray, List.set_cons_zero, List.set_cons_succ])
        refine take_d (i := 5) (some 11) (v := ?_) rfl rfl (by kernel_rfl) (by kernel_rfl) (by kernel_rfl) (fun _ _ _ h => h) (Or.inl ⟨by rfl, ?_⟩) (by assumption) ?_
        rotate_left; (intro w hSw; clear hSw; go_simp; try with_reducible rfl)
        all_goals (try simp only [Act.put, List.setIfInBounds_toArray, List.set_cons_zero, List.set_cons_succ])
        refine take_d (i := 6) (some 12) (v := ?_) rfl rfl (by kernel_rfl) (by kernel_rfl) (by kernel_rfl) (fun _ _ _ h => h) (Or.inl ⟨by rfl, ?_⟩) (by assumption) ?_
        rotate_left; (intro w hSw; clear hSw; go_simp; try with_reducible rfl)
        all_goals (try simp only [Act.put, List.setIfInBounds_toArray, List.set_cons_zero, List.set_cons_succ])
        refine take_d (i := 7) (some 13) (v := ?_) rfl rfl (by kernel_rfl) (by kernel_rfl) (by kernel_rfl) (fun _ _ _ h => h) (Or.inl ⟨by rfl, ?_⟩) (by assumption) ?_
        rotate_left; (intro w hSw; clear hSw; go_simp; try with_reducible rfl)
        all_goals (try simp only [Act.put, List.setIfInBounds_toArray, List.set_cons_zero, List.set_cons_succ])
        refine take_d (i := 8) (some 14) (oi := _) (v := _) rfl rfl (by kernel_rfl) (by kernel_rfl) (by kernel_rfl) (fun _ _ _ h => h) (yieldsIf_load_mid (by rfl) _ _ rfl _ _ rfl _ _ (fun w h => h.2.r) Try.underlying22 rfl (by kernel_rfl)) (by assumption) ?_
        all_goals (try simp only [Act.put, List.setIfInBounds_toArray, List.set_cons_zero, List.set_cons_succ])
        refine take_d (i := 9) (some 15) (oi := _) (v := _) rfl rfl (by kernel_rfl) (by kernel_rfl) (by kernel_rfl) (fun _ _ _ h => h) (yieldsIf_load_mid (by rfl) _ _ rfl _ _ rfl _ _ (fun w h => h.1.r) Try.underlying22 rfl (by kernel_rfl)) (by assumption) ?_
        all_goals (try simp only [Act.put, List.setIfInBounds_toArray, List.set_cons_zero, List.set_cons_succ])
        refine wpAnyH_ready (rs := [10]) (by kernel_rfl) (by simp) ?_
        refine AllReadyH.cons (o := _) rfl (fun K hK => ?_) ?_
        ·
          go_simp
          refine (Calls.bool_as (l4Less_any (atR l i) b _) hc).mono ?_
          rintro e w2 ⟨rfl, hb2⟩
          (try go_wp2_with fail)
          have hB' : Below w.heap.size w w2 := below_go hB hb2
          have iL' := Has.call iL hb2
          have i0' := Has.call i0 hb2
          clear hb2; clear hB; have hB := hB'; clear hB'; clear iL ziL; have iL := iL'; clear iL'; have ziL := iL.2.2; clear i0 zi0; have i0 := i0'; clear i0'; have zi0 := i0.2.2
          generalize hWW : w2 = wx at *; clear hWW
          refine hK.out _ _ ?hS4 (fun hHeld => ?_)
          case hS4 => exact ⟨rr_of i0, rro_of iL (by omega)⟩
          clear hK K
          (try simp only [Act.put, List.setIfInBounds_toArray, List.set_cons_zero, List.set_cons_succ])
          refine take_d (i := 11) (some 17) (v := ?_) rfl rfl (by kernel_rfl) (by kernel_rfl) (by kernel_rfl) (fun _ _ _ h => h) (Or.inl ⟨by rfl, ?_⟩) (by assumption) ?_
          rotate_left; (intro w hSw; clear hSw; go_simp; try with_reducible rfl)
          all_goals (try simp only [Act.put, List.setIfInBounds_toArray, List.set_cons_zero, List.set_cons_succ])
          refine wpAnyH_done (by kernel_rfl) ?_ _
          (try refine NoPanic.normal ?_)
          go_wp2
          go_ret
          exact ⟨rfl, hB⟩
        exact AllReadyH.nil
      · have hik : i = k := by omega
        subst hik
        go_wp2_with fail
        go_quiet (fail)
        go_wp2_with fail
        go_ret
        exact ⟨rfl, (by repeat (first | (with_reducible exact Below.refl _ _) | (with_reducible assumption) | (with_reducible refine below_go ?_ (by with_reducible assumption)) | (with_reducible refine below_new ?_ _) | ((with_reducible refine below_put ?_ ?_ _); rotate_left; (dsimp only; omega)) | (with_reducible refine Below.drew ?_) | (with_reducible refine below_dn ?_ _)))⟩

set_option maxHeartbeats 8000000 in
set_option maxRecDepth 100000 in
theorem l4Put_any (l : List (Nat → Int)) (hl : l.length ≤ 65536) (g cap : Nat) (hcap : l.length ≤ cap) (b : Nat → Int) (w : World) (hL : Has w g (l.length * 4) (rsC l)) :
    Calls Try.prog 70 #[.slice (some ⟨g, 0, none⟩) l.length cap, .agg #[.int .i64 (b 0), .int .i64 (b 1), .int .i64 (b 2), .int .i64 (b 3)]] w fun e w' => ∃ g' cap', e = .returned (.slice (some ⟨g', 0, none⟩) (adO ltR eqR l b).length cap') ∧ (adO ltR eqR l b).length ≤ cap' ∧ Has w' g' ((adO ltR eqR l b).length * 4) (rsC (adO ltR eqR l b)) ∧ (g' = g ∨ w.heap.size ≤ g') ∧ Below w.heap.size w w' := by
  obtain ⟨i0s, hi0, hz0, hz1, hz2⟩ := info_parts info_Rw3
  obtain ⟨n, hn⟩ : ∃ n, n = plO ltR l b := ⟨_, rfl⟩
  have hnl : n ≤ l.length := hn ▸ plO_le l b
  have HN := hide hn
  have HSM := hide (fun (h : n < l.length) (he : eqR (atR l n) b = true) => ad_same (hn ▸ h) (hn ▸ he))
  have HMO := hide (fun (h : n < l.length → eqR (atR l n) b = false) => hn ▸ ad_more (l := l) (b := b) (hn ▸ h))
  have HS := hide hL
  have hgl := hL.2.2
  clear hL hn
  generalize hk : l.length = k at *
  have HK := hide hk
  clear hk
  go_enter Try.func70, Try.ntmps70
  go_upto_region 1 with (fail)
  generalize hW : w.alloc _ = w1
  have hB : Below w.heap.size w w1 := by (rw [← hW]; exact (by repeat (first | (with_reducible exact Below.refl _ _) | (with_reducible assumption) | (with_reducible refine below_go ?_ (by with_reducible assumption)) | (with_reducible refine below_new ?_ _) | ((with_reducible refine below_put ?_ ?_ _); rotate_left; (dsimp only; omega)) | (with_reducible refine Below.drew ?_) | (with_reducible refine below_dn ?_ _))))
  have hsz : Hid (w1.heap.size = w.heap.size + 1) := hide (by rw [← hW]; simp)
  have i0 : Has w1 (w.heap.size) 4 (fun o => .int .i64 (b o)) := by (rw [← hW]; repeat (first | (refine Has.new ?_ rfl; simp; done) | refine Has.alloc ?_ _))
  have ci0 := i0.1; have fi0 := i0.2.1; have zi0 := i0.2.2
  clear hW
  clear ci0 fi0 zi0 hsz
  have hP := l4Place_any l (by rw [HK.out]; exact hl) g cap b
  rw [HK.out, ← HN.out] at hP
  have HP := hide (fun wz (h : Has wz g (k * 4) (rsC l)) => hP wz h)
  clear hP
  have iL := HS.out.call hB
  have ziL := iL.2.2
  have hi : n ≤ n := Nat.le_refl _
  have a0 : (0 : Int) ≤ n := by omega
  go_upto_region 2 with (first | (refine load_A4 rfl _ rfl _ _ rfl (by repeat (first | (with_reducible assumption) | (with_reducible apply Has.set) | ((with_reducible apply Has.other); (case hne => (dsimp only; omega))) | (with_reducible apply Has.alloc) | (with_reducible apply Has.drew) | (with_reducible apply Has.drewN))) (by omega) ?_) | (go_at_call 85; (with_reducible refine (HP.out _ iL).mono ?_); rintro e w2 ⟨rfl, hb2⟩; have hB' : Below w.heap.size w w2 := below_go (by repeat (first | (with_reducible exact Below.refl _ _) | (with_reducible assumption) | (with_reducible refine below_go ?_ (by with_reducible assumption)) | (with_reducible refine below_new ?_ _) | ((with_reducible refine below_put ?_ ?_ _); rotate_left; (dsimp only; omega)) | (with_reducible refine Below.drew ?_) | (with_reducible refine below_dn ?_ _))) hb2; have iL' : Has w2 (g) (k * 4) _ := Has.call (by repeat (first | (with_reducible assumption) | (with_reducible apply Has.set) | ((with_reducible apply Has.other); (case hne => (dsimp only; omega))) | (with_reducible apply Has.alloc) | (with_reducible apply Has.drew) | (with_reducible apply Has.drewN))) hb2; have i0' : Has w2 (w.heap.size) 4 _ := Has.call (by repeat (first | (with_reducible assumption) | (with_reducible apply Has.set) | ((with_reducible apply Has.other); (case hne => (dsimp only; omega))) | (with_reducible apply Has.alloc) | (with_reducible apply Has.drew) | (with_reducible apply Has.drewN))) hb2; clear hB hb2; have hB := hB'; clear hB'; (try clear fiL); (try clear ziL); (try clear ciL); clear iL; have iL := iL'; clear iL'; have ciL := iL.1; have fiL := iL.2.1; have ziL := iL.2.2; (try clear fi0); (try clear zi0); (try clear ci0); clear i0; have i0 := i0'; clear i0'; have ci0 := i0.1; have fi0 := i0.2.1; have zi0 := i0.2.2))
  clear HP
  have zi0 := i0.2.2
  generalize hni : n = i at *
  clear hni
  by_cases hnk : i < k
  · have a1 : (i : Int) < k := by omega
    have a3 : (i : Int) ≤ cap := by omega
    have hci : ¬ cap = i := by omega
    have a4 : ((k - i : Nat) : Int) = (k : Int) - i := by omega
    have HTL : Hid ((rsV (l.take i)).length = i * 4) := hide (by rw [rsV_len, List.length_take, HK.out]; omega)
    have HDL : Hid ((rsV (l.drop i)).length = (k - i) * 4) := hide (by rw [rsV_len, List.length_drop, HK.out])
    go_wp2_with fail
    have hE := eql_R (atR l i) b
    cases he : eqR (atR l i) b
    · rw [he] at hE
      skip
      refine wp_region_noPanic ?_
      refine wp_region_held_drew (S := (fun w' => RR w.heap.size b w' ∧ RRo g i (atR l i) w')) (by kernel_rfl) ?hS020 (fun hHeld => ?_)
      case hS020 => exact ⟨rr_of (Has.drew i0), rro_of (Has.drew iL) (by omega)⟩
      have hB' : Below w.heap.size w (World.drew _) := Below.drew hB
      have iL' := Has.drew iL
      have i0' := Has.drew i0
      (try clear ciL); (try clear fiL)
      (try clear ci0); (try clear fi0)
      generalize hWW : World.drew _ = wx at *; clear hWW
      clear hB; have hB := hB'; clear hB'; clear iL ziL; have iL := iL'; clear iL'; have ziL := iL.2.2; clear i0 zi0; have i0 := i0'; clear i0'; have zi0 := i0.2.2
      refine take_d (i := 0) (some 9) (v := ?_) rfl rfl (by kernel_rfl) (by kernel_rfl) (by kernel_rfl) (fun _ _ _ h => h) (Or.inl ⟨by rfl, ?_⟩) (by assumption) ?_
      rotate_left; (intro w hSw; clear hSw; go_simp; try with_reducible rfl)
      all_goals (try simp only [Act.put, List.setIfInBounds_toArray, List.set_cons_zero, List.set_cons_succ])
      refine take_d (i := 1) (some 10) (v := ?_) rfl rfl (by kernel_rfl) (by kernel_rfl) (by kernel_rfl) (fun _ _ _ h => h) (Or.inl ⟨by rfl, ?_⟩) (by assumption) ?_
      rotate_left; (intro w hSw; clear hSw; go_simp; try with_reducible rfl)
      all_goals (try simp only [Act.put, List.setIfInBounds_toArray, List.set_cons_zero, List.set_cons_succ])
      refine take_d (i := 2) (some 11) (v := ?_) rfl rfl (by kernel_rfl) (by kernel_rfl) (by kernel_rfl) (fun _ _ _ h => h) (Or.inl ⟨by rfl, ?_⟩) (by assumption) ?_
      rotate_left; (intro w hSw; clear hSw; go_simp; try with_reducible rfl)
      all_goals (try simp only [Act.put, List.setIfInBounds_toArray, List.set_cons_zero, List.set_cons_succ])
      refine take_d (i := 3) (some 12) (v := ?_) rfl rfl (by kernel_rfl) (by kernel_rfl) (by kernel_rfl) (fun _ _ _ h => h) (Or.inl ⟨by rfl, ?_⟩) (by assumption) ?_
      rotate_left; (intro w hSw; clear hSw; go_simp; try with_reducible rfl)
      all_goals (try simp only [Act.put, List.setIfInBounds_toArray, List.set_cons_zero, List.set_cons_succ])
      refine take_d (i := 4) (some 13) (v := ?_) rfl rfl (by kernel_rfl) (by kernel_rfl) (by kernel_rfl) (fun _ _ _ h => h) (Or.inl ⟨by rfl, ?_⟩) (by assumption) ?_
      rotate_left; (intro w hSw; clear hSw; go_simp; try with_reducible rfl)
      all_goals (try simp only [Act.put, List.setIfInBounds_toArray, List.set_cons_zero, List.set_cons_succ])
      refine take_d (i := 5) (some 14) (v := ?_) rfl rfl (by kernel_rfl) (by kernel_rfl) (by kernel_rfl) (fun _ _ _ h => h) (Or.inl ⟨by rfl, ?_⟩) (by assumption) ?_
      rotate_left; (intro w hSw; clear hSw; go_simp; try with_reducible rfl)
      all_goals (try simp only [Act.put, List.setIfInBounds_toArray, List.set_cons_zero, List.set_cons_succ])
      refine take_d (i := 6) (some 15) (v := ?_) rfl rfl (by kernel_rfl) (by kernel_rfl) (by kernel_rfl) (fun _ _ _ h => h) (Or.inl ⟨by rfl, ?_⟩) (by assumption) ?_
      rotate_left; (intro w hSw; clear hSw; go_simp; try with_reducible rfl)
      all_goals (try simp only [Act.put, List.setIfInBounds_toArray, List.set_cons_zero, List.set_cons_succ])
      refine take_d (i := 7) (some 16) (v := ?_) rfl rfl (by kernel_rfl) (by kernel_rfl) (by kernel_rfl) (fun _ _ _ h => h) (Or.inl ⟨by rfl, ?_⟩) (by assumption) ?_
      rotate_left; (intro w hSw; clear hSw; go_simp; try with_reducible rfl)
      all_goals (try simp only [Act.put, List.setIfInBounds_toArray, List.set_cons_zero, List.set_cons_succ])
      refine take_d (i := 8) (some 17) (oi := _) (v := _) rfl rfl (by kernel_rfl) (by kernel_rfl) (by kernel_rfl) (fun _ _ _ h => h) (yieldsIf_load_mid (by rfl) _ _ rfl _ _ rfl _ _ (fun w h => h.2.r) Try.underlying22 rfl (by kernel_rfl)) (by assumption) ?_
      all_goals (try simp only [Act.put, List.setIfInBounds_toArray, List.set_cons_zero, List.set_cons_succ])
      refine take_d (i := 9) (some 18) (oi := _) (v := _) rfl rfl (by kernel_rfl) (by kernel_rfl) (by kernel_rfl) (fun _ _ _ h => h) (yieldsIf_load_mid (by rfl) _ _ rfl _ _ rfl _ _ (fun w h => h.1.r) Try.underlying22 rfl (by kernel_rfl)) (by assumption) ?_
      all_goals (try simp only [Act.put, List.setIfInBounds_toArray, List.set_cons_zero, List.set_cons_succ])
      refine take_d (i := 10) (some 19) (v := ?_) rfl rfl (by kernel_rfl) (by kernel_rfl) (by kernel_rfl) (fun _ _ _ h => h) (Or.inl ⟨by rfl, ?_⟩) (by assumption) ?_
      rotate_left; (intro w hSw; clear hSw; go_simp; try with_reducible rfl)
      all_goals (try simp only [Act.put, List.setIfInBounds_toArray, List.set_cons_zero, List.set_cons_succ])
      refine take_d (i := 11) (some 20) (v := ?_) rfl rfl (by kernel_rfl) (by kernel_rfl) (by kernel_rfl) (fun _ _ _ h => h) (Or.inl ⟨by rfl, ?_⟩) (by assumption) ?_
      rotate_left; (intro w hSw; clear hSw; go_simp; try with_reducible rfl)
      all_goals (try simp only [Act.put, List.setIfInBounds_toArray, List.set_cons_zero, List.set_cons_succ])
      refine wpAnyH_done (by kernel_rfl) ?_ _
      (try refine NoPanic.normal ?_)
      go_wp2_with fail
      have HM := hide (HMO.out fun _ => he)
      have HP0 : Hid (0 < (adO ltR eqR l b).length * 4) := hide (by rw [HM.out]; simp; omega)
      refine wp_region_noPanic ?_
      refine wp_region_held_drew (S := (fun w' => RR w.heap.size b w')) (by kernel_rfl) ?hS05 (fun hHeld => ?_)
      case hS05 => exact (rr_of (Has.drew i0))
      have hB' : Below w.heap.size w (World.drew _) := Below.drew hB
      have iL' := Has.drew iL
      have i0' := Has.drew i0
      (try clear ciL); (try clear fiL)
      (try clear ci0); (try clear fi0)
      generalize hWW : World.drew _ = wx at *; clear hWW
      clear hB; have hB := hB'; clear hB'; clear iL ziL; have iL := iL'; clear iL'; have ziL := iL.2.2; clear i0 zi0; have i0 := i0'; clear i0'; have zi0 := i0.2.2
      refine take_d (i := 1) (some 23) (v := ?_) rfl rfl (by kernel_rfl) (by kernel_rfl) (by kernel_rfl) (fun _ _ _ h => h) (Or.inl ⟨by rfl, ?_⟩) (by assumption) ?_
      rotate_left; (intro w hSw; clear hSw; go_simp; try with_reducible rfl)
      all_goals (try simp only [Act.put, List.setIfInBounds_toArray, List.set_cons_zero, List.set_cons_succ])
      refine take_d (i := 2) (some 24) (v := ?_) rfl rfl (by kernel_rfl) (by kernel_rfl) (by kernel_rfl) (fun _ _ _ h => h) (Or.inl ⟨by rfl, ?_⟩) (by assumption) ?_
      rotate_left; (intro w hSw; clear hSw; go_simp; try with_reducible rfl)
      all_goals (try simp only [Act.put, List.setIfInBounds_toArray, List.set_cons_zero, List.set_cons_succ])
      refine take_d (i := 3) (some 25) (v := ?_) rfl rfl (by kernel_rfl) (by kernel_rfl) (by kernel_rfl) (fun _ _ _ h => h) (Or.inl ⟨by rfl, ?_⟩) (by assumption) ?_
      rotate_left; (intro w hSw; clear hSw; go_simp; try with_reducible rfl)
      all_goals (try simp only [Act.put, List.setIfInBounds_toArray, List.set_cons_zero, List.set_cons_succ])
      refine take_d (i := 5) (some 27) (oi := _) (v := _) rfl rfl (by kernel_rfl) (by kernel_rfl) (by kernel_rfl) (fun _ _ _ h => h) (yieldsIf_load_mid (by rfl) _ _ rfl _ _ rfl _ _ (fun w h => h.r) Try.underlying22 rfl (by kernel_rfl)) (by assumption) ?_
      all_goals (try simp only [Act.put, List.setIfInBounds_toArray, List.set_cons_zero, List.set_cons_succ])
      refine take_d (i := 8) (some 30) (v := ?_) rfl rfl (by kernel_rfl) (by kernel_rfl) (by kernel_rfl) (fun _ _ _ h => h) (Or.inl ⟨by rfl, ?_⟩) (by assumption) ?_
      rotate_left; (intro w hSw; clear hSw; go_simp; try with_reducible rfl)
      all_goals (try simp only [Act.put, List.setIfInBounds_toArray, List.set_cons_zero, List.set_cons_succ])
      refine take_d (i := 9) (some 31) (v := ?_) rfl rfl (by kernel_rfl) (by kernel_rfl) (by kernel_rfl) (fun _ _ _ h => h) (Or.inl ⟨by rfl, ?_⟩) (by assumption) ?_
      rotate_left; (intro w hSw; clear hSw; go_simp; try with_reducible rfl)
      all_goals (try simp only [Act.put, List.setIfInBounds_toArray, List.set_cons_zero, List.set_cons_succ])
      refine take_d (i := 10) (some 32) (v := ?_) rfl rfl (by kernel_rfl) (by kernel_rfl) (by kernel_rfl) (fun _ _ _ h => h) (Or.inl ⟨by rfl, ?_⟩) (by assumption) ?_
      rotate_left; (intro w hSw; clear hSw; go_simp; try with_reducible rfl)
      all_goals (try simp only [Act.put, List.setIfInBounds_toArray, List.set_cons_zero, List.set_cons_succ])
      refine wpAnyH_ready (rs := [0, 6]) (by kernel_rfl) (by simp) ?_
      refine AllReadyH.cons (o := _) rfl (fun K hK => ?_) ?_
      ·
        go_simp
        generalize hW : World.alloc _ _ = w2
        have hB' : Below w.heap.size w w2 := by (rw [← hW]; exact below_new hB _)
        have iL' := Has.at hW (Has.alloc iL _)
        have i0' := Has.at hW (Has.alloc i0 _)
        have own : w2.ownsRow (w.heap.size + 1) 22 4 (.slice (some ⟨wx.heap.size, 0, none⟩) 0 0) 0 (rsV []) := by (rw [← hW]; exact World.ownsRow_made wx #[] 0 zi0 (Nat.zero_le _) rfl)
        clear hW; clear hB; have hB := hB'; clear hB'; clear iL ziL; have iL := iL'; clear iL'; have ziL := iL.2.2; clear i0 zi0; have i0 := i0'; clear i0'; have zi0 := i0.2.2
        generalize hS : (World.heap wx).size = E1 at *
        clear hS; generalize hWW : w2 = wx at *; clear hWW
        refine hK.out _ _ ?hS6 (fun hHeld => ?_)
        case hS6 => exact (rr_of i0)
        clear hK K
        (try simp only [Act.put, List.setIfInBounds_toArray, List.set_cons_zero, List.set_cons_succ])
        refine wpAnyH_ready (rs := [4, 6]) (by kernel_rfl) (by simp) ?_
        refine AllReadyH.cons (o := _) rfl (fun K hK => ?_) ?_
        ·
          rw [if_pos (by rfl)]
          (first | (refine wp_append_own _ _ _ 30 (by rfl) (w.heap.size + 1) 22 i0s (.agg #[.int .i64 0, .int .i64 0, .int .i64 0, .int .i64 0]) 4 32 Try.underlying30 hi0 hz0 hz1 hz2 rfl (by decide) _ _ _ (by rfl) own ⟨g, 0, none⟩ i _ (rsV (l.take i)) (by rfl) HTL.out (rs_take HK.out iL i) (rsV_ints _) (by unfold maxLen; omega) (by omega) zi0 ?_))
          intro v1 w2 hown' hgrow _
          change K (Act.put _ (some 26) _) _
          have hB' := hB.grown hgrow hB.size (fun q hq => Nat.le_of_succ_le (own.lt q hq).1)
          have iL' := iL.grown hgrow (own_at_ne own (Nat.lt_succ_of_lt hgl))
          have i0' := i0.grown hgrow (own_at_ne own (Nat.lt_succ_self _))
          clear own hgrow; have own := hown'; clear hown'; clear hB; have hB := hB'; clear hB'; clear iL ziL; have iL := iL'; clear iL'; have ziL := iL.2.2; clear i0 zi0; have i0 := i0'; clear i0'; have zi0 := i0.2.2
          generalize hWW : w2 = wx at *; clear hWW
          refine hK.out _ _ ?hS7 (fun hHeld => ?_)
          case hS7 => exact (rr_of i0)
          clear hK K
          (try simp only [Act.put, List.setIfInBounds_toArray, List.set_cons_zero, List.set_cons_succ])
          refine wpAnyH_ready (rs := [6]) (by kernel_rfl) (by simp) ?_
          refine AllReadyH.cons (o := _) rfl (fun K hK => ?_) ?_
          ·
            go_simp
            generalize hW : World.alloc _ _ = w2
            have hB' : Below w.heap.size w w2 := by (rw [← hW]; exact below_new hB _)
            have iL' := Has.at hW (Has.alloc iL _)
            have i0' := Has.at hW (Has.alloc i0 _)
            have jc := (Has.newat (n := 4) hW rfl).congr (d := fun o => .int .i64 (b o)) (fun o ho => lit4' b o ho)
            have own' := own_at hW own; clear own; have own := own'; clear own'
            clear hW; clear hB; have hB := hB'; clear hB'; clear iL ziL; have iL := iL'; clear iL'; have ziL := iL.2.2; clear i0 zi0; have i0 := i0'; clear i0'; have zi0 := i0.2.2
            generalize hS : (World.heap wx).size = C1 at *
            clear hS; generalize hWW : w2 = wx at *; clear hWW
            refine hK.out _ _ ?hS8 (fun hHeld => ?_)
            case hS8 => exact (rr_of i0)
            clear hK K
            (try simp only [Act.put, List.setIfInBounds_toArray, List.set_cons_zero, List.set_cons_succ])
            refine wpAnyH_ready (rs := [7]) (by kernel_rfl) (by simp) ?_
            refine AllReadyH.cons (o := _) rfl (fun K hK => ?_) ?_
            ·
              rw [if_pos (by rfl)]
              (first | (refine wp_append_own _ _ _ 30 (by rfl) (w.heap.size + 1) 22 i0s (.agg #[.int .i64 0, .int .i64 0, .int .i64 0, .int .i64 0]) 4 32 Try.underlying30 hi0 hz0 hz1 hz2 rfl (by decide) _ _ _ (by rfl) own ⟨C1, 0, none⟩ 1 1 (c4 b) (by rfl) rfl (rs_box jc) (c4_ints b) (by unfold maxLen; omega) (by omega) zi0 ?_))
              intro v2 w2 hown' hgrow _
              change K (Act.put _ (some 29) _) _
              have hB' := hB.grown hgrow hB.size (fun q hq => Nat.le_of_succ_le (own.lt q hq).1)
              have iL' := iL.grown hgrow (own_at_ne own (Nat.lt_succ_of_lt hgl))
              have i0' := i0.grown hgrow (own_at_ne own (Nat.lt_succ_self _))
              clear jc
              clear own hgrow; have own := hown'; clear hown'; clear hB; have hB := hB'; clear hB'; clear iL ziL; have iL := iL'; clear iL'; have ziL := iL.2.2; clear i0 zi0; have i0 := i0'; clear i0'; have zi0 := i0.2.2
              generalize hWW : w2 = wx at *; clear hWW
              refine hK.out _ _ ?hS9 (fun hHeld => ?_)
              case hS9 => exact (rr_of i0)
              clear hK K
              (try simp only [Act.put, List.setIfInBounds_toArray, List.set_cons_zero, List.set_cons_succ])
              refine wpAnyH_ready (rs := [11]) (by kernel_rfl) (by simp) ?_
              refine AllReadyH.cons (o := _) rfl (fun K hK => ?_) ?_
              ·
                rw [if_pos (by rfl)]
                (first | (refine wp_append_own _ _ _ 30 (by rfl) (w.heap.size + 1) 22 i0s (.agg #[.int .i64 0, .int .i64 0, .int .i64 0, .int .i64 0]) 4 32 Try.underlying30 hi0 hz0 hz1 hz2 rfl (by decide) _ _ _ (by rfl) own ⟨g, i * 4, none⟩ (k - i) _ (rsV (l.drop i)) (by rfl) HDL.out (rs_drop HK.out iL i) (rsV_ints _) (by unfold maxLen; omega) (by omega) zi0 ?_))
                intro v3 w2 hown' hgrow _
                change K (Act.put _ (some 33) _) _
                have hB' := hB.grown hgrow hB.size (fun q hq => Nat.le_of_succ_le (own.lt q hq).1)
                have iL' := iL.grown hgrow (own_at_ne own (Nat.lt_succ_of_lt hgl))
                have i0' := i0.grown hgrow (own_at_ne own (Nat.lt_succ_self _))
                clear own hgrow; have own := hown'; clear hown'; clear hB; have hB := hB'; clear hB'; clear iL ziL; have iL := iL'; clear iL'; have ziL := iL.2.2; clear i0 zi0; have i0 := i0'; clear i0'; have zi0 := i0.2.2
                generalize hWW : w2 = wx at *; clear hWW
                refine hK.out _ _ ?hS10 (fun hHeld => ?_)
                case hS10 => exact (rr_of i0)
                clear hK K
                (try simp only [Act.put, List.setIfInBounds_toArray, List.set_cons_zero, List.set_cons_succ])
                refine take_d (i := 12) (some 4) (v := ?_) rfl rfl (by kernel_rfl) (by kernel_rfl) (by kernel_rfl) (fun _ _ _ h => h) (Or.inl ⟨by rfl, ?_⟩) (by assumption) ?_
                rotate_left; (intro w hSw; clear hSw; go_simp; try with_reducible rfl)
                all_goals (try simp only [Act.put, List.setIfInBounds_toArray, List.set_cons_zero, List.set_cons_succ])
                refine wpAnyH_done (by kernel_rfl) ?_ _
                (try refine NoPanic.normal ?_)
                have own := ad_own (l := l) (b := b) own HM.out HK.out hnl
                obtain ⟨A, cp, rfl, hcp, hS⟩ := rs_sl own
                obtain ⟨g', rfl, hge, hH⟩ := hS HP0.out
                clear own hS
                go_wp2
                go_ret
                exact ⟨g', cp, rfl, hcp, hH, .inr (Nat.le_of_succ_le hge), hB⟩
              exact AllReadyH.nil
            exact AllReadyH.nil
          exact AllReadyH.nil
        refine AllReadyH.cons (o := _) rfl (fun K hK => ?_) ?_
        ·
          go_simp
          generalize hW : World.alloc _ _ = w2
          have hB' : Below w.heap.size w w2 := by (rw [← hW]; exact below_new hB _)
          have iL' := Has.at hW (Has.alloc iL _)
          have i0' := Has.at hW (Has.alloc i0 _)
          have jc := (Has.newat (n := 4) hW rfl).congr (d := fun o => .int .i64 (b o)) (fun o ho => lit4' b o ho)
          have hCE : E1 < wx.heap.size := (own.lt E1 rfl).2
          have own' := own_at hW own; clear own; have own := own'; clear own'
          clear hW; clear hB; have hB := hB'; clear hB'; clear iL ziL; have iL := iL'; clear iL'; have ziL := iL.2.2; clear i0 zi0; have i0 := i0'; clear i0'; have zi0 := i0.2.2
          generalize hS : (World.heap wx).size = C1 at *
          clear hS; generalize hWW : w2 = wx at *; clear hWW
          refine hK.out _ _ ?hS11 (fun hHeld => ?_)
          case hS11 => exact (rr_of i0)
          clear hK K
          (try simp only [Act.put, List.setIfInBounds_toArray, List.set_cons_zero, List.set_cons_succ])
          refine wpAnyH_ready (rs := [4]) (by kernel_rfl) (by simp) ?_
          refine AllReadyH.cons (o := _) rfl (fun K hK => ?_) ?_
          ·
            rw [if_pos (by rfl)]
            (first | (refine wp_append_own _ _ _ 30 (by rfl) (w.heap.size + 1) 22 i0s (.agg #[.int .i64 0, .int .i64 0, .int .i64 0, .int .i64 0]) 4 32 Try.underlying30 hi0 hz0 hz1 hz2 rfl (by decide) _ _ _ (by rfl) own ⟨g, 0, none⟩ i _ (rsV (l.take i)) (by rfl) HTL.out (rs_take HK.out iL i) (rsV_ints _) (by unfold maxLen; omega) (by omega) zi0 ?_))
            intro v1 w2 hown' hgrow _
            change K (Act.put _ (some 26) _) _
            have hB' := hB.grown hgrow hB.size (fun q hq => Nat.le_of_succ_le (own.lt q hq).1)
            have iL' := iL.grown hgrow (own_at_ne own (Nat.lt_succ_of_lt hgl))
            have i0' := i0.grown hgrow (own_at_ne own (Nat.lt_succ_self _))
            have jc' := jc.grown hgrow (by simp [Value.ownBlock]; omega); clear jc; have jc := jc'; clear jc'
            clear own hgrow; have own := hown'; clear hown'; clear hB; have hB := hB'; clear hB'; clear iL ziL; have iL := iL'; clear iL'; have ziL := iL.2.2; clear i0 zi0; have i0 := i0'; clear i0'; have zi0 := i0.2.2
            generalize hWW : w2 = wx at *; clear hWW
            refine hK.out _ _ ?hS12 (fun hHeld => ?_)
            case hS12 => exact (rr_of i0)
            clear hK K
            (try simp only [Act.put, List.setIfInBounds_toArray, List.set_cons_zero, List.set_cons_succ])
            refine wpAnyH_ready (rs := [7]) (by kernel_rfl) (by simp) ?_
            refine AllReadyH.cons (o := _) rfl (fun K hK => ?_) ?_
            ·
              rw [if_pos (by rfl)]
              (first | (refine wp_append_own _ _ _ 30 (by rfl) (w.heap.size + 1) 22 i0s (.agg #[.int .i64 0, .int .i64 0, .int .i64 0, .int .i64 0]) 4 32 Try.underlying30 hi0 hz0 hz1 hz2 rfl (by decide) _ _ _ (by rfl) own ⟨C1, 0, none⟩ 1 1 (c4 b) (by rfl) rfl (rs_box jc) (c4_ints b) (by unfold maxLen; omega) (by omega) zi0 ?_))
              intro v2 w2 hown' hgrow _
              change K (Act.put _ (some 29) _) _
              have hB' := hB.grown hgrow hB.size (fun q hq => Nat.le_of_succ_le (own.lt q hq).1)
              have iL' := iL.grown hgrow (own_at_ne own (Nat.lt_succ_of_lt hgl))
              have i0' := i0.grown hgrow (own_at_ne own (Nat.lt_succ_self _))
              clear jc
              clear own hgrow; have own := hown'; clear hown'; clear hB; have hB := hB'; clear hB'; clear iL ziL; have iL := iL'; clear iL'; have ziL := iL.2.2; clear i0 zi0; have i0 := i0'; clear i0'; have zi0 := i0.2.2
              generalize hWW : w2 = wx at *; clear hWW
              refine hK.out _ _ ?hS13 (fun hHeld => ?_)
              case hS13 => exact (rr_of i0)
              clear hK K
              (try simp only [Act.put, List.setIfInBounds_toArray, List.set_cons_zero, List.set_cons_succ])
              refine wpAnyH_ready (rs := [11]) (by kernel_rfl) (by simp) ?_
              refine AllReadyH.cons (o := _) rfl (fun K hK => ?_) ?_
              ·
                rw [if_pos (by rfl)]
                (first | (refine wp_append_own _ _ _ 30 (by rfl) (w.heap.size + 1) 22 i0s (.agg #[.int .i64 0, .int .i64 0, .int .i64 0, .int .i64 0]) 4 32 Try.underlying30 hi0 hz0 hz1 hz2 rfl (by decide) _ _ _ (by rfl) own ⟨g, i * 4, none⟩ (k - i) _ (rsV (l.drop i)) (by rfl) HDL.out (rs_drop HK.out iL i) (rsV_ints _) (by unfold maxLen; omega) (by omega) zi0 ?_))
                intro v3 w2 hown' hgrow _
                change K (Act.put _ (some 33) _) _
                have hB' := hB.grown hgrow hB.size (fun q hq => Nat.le_of_succ_le (own.lt q hq).1)
                have iL' := iL.grown hgrow (own_at_ne own (Nat.lt_succ_of_lt hgl))
                have i0' := i0.grown hgrow (own_at_ne own (Nat.lt_succ_self _))
                clear own hgrow; have own := hown'; clear hown'; clear hB; have hB := hB'; clear hB'; clear iL ziL; have iL := iL'; clear iL'; have ziL := iL.2.2; clear i0 zi0; have i0 := i0'; clear i0'; have zi0 := i0.2.2
                generalize hWW : w2 = wx at *; clear hWW
                refine hK.out _ _ ?hS14 (fun hHeld => ?_)
                case hS14 => exact (rr_of i0)
                clear hK K
                (try simp only [Act.put, List.setIfInBounds_toArray, List.set_cons_zero, List.set_cons_succ])
                refine take_d (i := 12) (some 4) (v := ?_) rfl rfl (by kernel_rfl) (by kernel_rfl) (by kernel_rfl) (fun _ _ _ h => h) (Or.inl ⟨by rfl, ?_⟩) (by assumption) ?_
                rotate_left; (intro w hSw; clear hSw; go_simp; try with_reducible rfl)
                all_goals (try simp only [Act.put, List.setIfInBounds_toArray, List.set_cons_zero, List.set_cons_succ])
                refine wpAnyH_done (by kernel_rfl) ?_ _
                (try refine NoPanic.normal ?_)
                have own := ad_own (l := l) (b := b) own HM.out HK.out hnl
                obtain ⟨A, cp, rfl, hcp, hS⟩ := rs_sl own
                obtain ⟨g', rfl, hge, hH⟩ := hS HP0.out
                clear own hS
                go_wp2
                go_ret
                exact ⟨g', cp, rfl, hcp, hH, .inr (Nat.le_of_succ_le hge), hB⟩
              exact AllReadyH.nil
            exact AllReadyH.nil
          exact AllReadyH.nil
        exact AllReadyH.nil
      refine AllReadyH.cons (o := _) rfl (fun K hK => ?_) ?_
      ·
        go_simp
        generalize hW : World.alloc _ _ = w2
        have hB' : Below w.heap.size w w2 := by (rw [← hW]; exact below_new hB _)
        have iL' := Has.at hW (Has.alloc iL _)
        have i0' := Has.at hW (Has.alloc i0 _)
        have jc := (Has.newat (n := 4) hW rfl).congr (d := fun o => .int .i64 (b o)) (fun o ho => lit4' b o ho)
        clear hW; clear hB; have hB := hB'; clear hB'; clear iL ziL; have iL := iL'; clear iL'; have ziL := iL.2.2; clear i0 zi0; have i0 := i0'; clear i0'; have zi0 := i0.2.2
        generalize hS : (World.heap wx).size = C1 at *
        clear hS; generalize hWW : w2 = wx at *; clear hWW
        refine hK.out _ _ ?hS15 (fun hHeld => ?_)
        case hS15 => exact (rr_of i0)
        clear hK K
        (try simp only [Act.put, List.setIfInBounds_toArray, List.set_cons_zero, List.set_cons_succ])
        refine wpAnyH_ready (rs := [0]) (by kernel_rfl) (by simp) ?_
        refine AllReadyH.cons (o := _) rfl (fun K hK => ?_) ?_
        ·
          go_simp
          generalize hW : World.alloc _ _ = w2
          have hB' : Below w.heap.size w w2 := by (rw [← hW]; exact below_new hB _)
          have iL' := Has.at hW (Has.alloc iL _)
          have i0' := Has.at hW (Has.alloc i0 _)
          have own : w2.ownsRow (w.heap.size + 1) 22 4 (.slice (some ⟨wx.heap.size, 0, none⟩) 0 0) 0 (rsV []) := by (rw [← hW]; exact World.ownsRow_made wx #[] 0 zi0 (Nat.zero_le _) rfl)
          have jc' := Has.at hW (Has.alloc jc _); have hCE := jc.2.2; clear jc; have jc := jc'; clear jc'
          clear hW; clear hB; have hB := hB'; clear hB'; clear iL ziL; have iL := iL'; clear iL'; have ziL := iL.2.2; clear i0 zi0; have i0 := i0'; clear i0'; have zi0 := i0.2.2
          generalize hS : (World.heap wx).size = E1 at *
          clear hS; generalize hWW : w2 = wx at *; clear hWW
          refine hK.out _ _ ?hS16 (fun hHeld => ?_)
          case hS16 => exact (rr_of i0)
          clear hK K
          (try simp only [Act.put, List.setIfInBounds_toArray, List.set_cons_zero, List.set_cons_succ])
          refine wpAnyH_ready (rs := [4]) (by kernel_rfl) (by simp) ?_
          refine AllReadyH.cons (o := _) rfl (fun K hK => ?_) ?_
          ·
            rw [if_pos (by rfl)]
            (first | (refine wp_append_own _ _ _ 30 (by rfl) (w.heap.size + 1) 22 i0s (.agg #[.int .i64 0, .int .i64 0, .int .i64 0, .int .i64 0]) 4 32 Try.underlying30 hi0 hz0 hz1 hz2 rfl (by decide) _ _ _ (by rfl) own ⟨g, 0, none⟩ i _ (rsV (l.take i)) (by rfl) HTL.out (rs_take HK.out iL i) (rsV_ints _) (by unfold maxLen; omega) (by omega) zi0 ?_))
            intro v1 w2 hown' hgrow _
            change K (Act.put _ (some 26) _) _
            have hB' := hB.grown hgrow hB.size (fun q hq => Nat.le_of_succ_le (own.lt q hq).1)
            have iL' := iL.grown hgrow (own_at_ne own (Nat.lt_succ_of_lt hgl))
            have i0' := i0.grown hgrow (own_at_ne own (Nat.lt_succ_self _))
            have jc' := jc.grown hgrow (by simp [Value.ownBlock]; omega); clear jc; have jc := jc'; clear jc'
            clear own hgrow; have own := hown'; clear hown'; clear hB; have hB := hB'; clear hB'; clear iL ziL; have iL := iL'; clear iL'; have ziL := iL.2.2; clear i0 zi0; have i0 := i0'; clear i0'; have zi0 := i0.2.2
            generalize hWW : w2 = wx at *; clear hWW
            refine hK.out _ _ ?hS17 (fun hHeld => ?_)
            case hS17 => exact (rr_of i0)
            clear hK K
            (try simp only [Act.put, List.setIfInBounds_toArray, List.set_cons_zero, List.set_cons_succ])
            refine wpAnyH_ready (rs := [7]) (by kernel_rfl) (by simp) ?_
            refine AllReadyH.cons (o := _) rfl (fun K hK => ?_) ?_
            ·
              rw [if_pos (by rfl)]
              (first | (refine wp_append_own _ _ _ 30 (by rfl) (w.heap.size + 1) 22 i0s (.agg #[.int .i64 0, .int .i64 0, .int .i64 0, .int .i64 0]) 4 32 Try.underlying30 hi0 hz0 hz1 hz2 rfl (by decide) _ _ _ (by rfl) own ⟨C1, 0, none⟩ 1 1 (c4 b) (by rfl) rfl (rs_box jc) (c4_ints b) (by unfold maxLen; omega) (by omega) zi0 ?_))
              intro v2 w2 hown' hgrow _
              change K (Act.put _ (some 29) _) _
              have hB' := hB.grown hgrow hB.size (fun q hq => Nat.le_of_succ_le (own.lt q hq).1)
              have iL' := iL.grown hgrow (own_at_ne own (Nat.lt_succ_of_lt hgl))
              have i0' := i0.grown hgrow (own_at_ne own (Nat.lt_succ_self _))
              clear jc
              clear own hgrow; have own := hown'; clear hown'; clear hB; have hB := hB'; clear hB'; clear iL ziL; have iL := iL'; clear iL'; have ziL := iL.2.2; clear i0 zi0; have i0 := i0'; clear i0'; have zi0 := i0.2.2
              generalize hWW : w2 = wx at *; clear hWW
              refine hK.out _ _ ?hS18 (fun hHeld => ?_)
              case hS18 => exact (rr_of i0)
              clear hK K
              (try simp only [Act.put, List.setIfInBounds_toArray, List.set_cons_zero, List.set_cons_succ])
              refine wpAnyH_ready (rs := [11]) (by kernel_rfl) (by simp) ?_
              refine AllReadyH.cons (o := _) rfl (fun K hK => ?_) ?_
              ·
                rw [if_pos (by rfl)]
                (first | (refine wp_append_own _ _ _ 30 (by rfl) (w.heap.size + 1) 22 i0s (.agg #[.int .i64 0, .int .i64 0, .int .i64 0, .int .i64 0]) 4 32 Try.underlying30 hi0 hz0 hz1 hz2 rfl (by decide) _ _ _ (by rfl) own ⟨g, i * 4, none⟩ (k - i) _ (rsV (l.drop i)) (by rfl) HDL.out (rs_drop HK.out iL i) (rsV_ints _) (by unfold maxLen; omega) (by omega) zi0 ?_))
                intro v3 w2 hown' hgrow _
                change K (Act.put _ (some 33) _) _
                have hB' := hB.grown hgrow hB.size (fun q hq => Nat.le_of_succ_le (own.lt q hq).1)
                have iL' := iL.grown hgrow (own_at_ne own (Nat.lt_succ_of_lt hgl))
                have i0' := i0.grown hgrow (own_at_ne own (Nat.lt_succ_self _))
                clear own hgrow; have own := hown'; clear hown'; clear hB; have hB := hB'; clear hB'; clear iL ziL; have iL := iL'; clear iL'; have ziL := iL.2.2; clear i0 zi0; have i0 := i0'; clear i0'; have zi0 := i0.2.2
                generalize hWW : w2 = wx at *; clear hWW
                refine hK.out _ _ ?hS19 (fun hHeld => ?_)
                case hS19 => exact (rr_of i0)
                clear hK K
                (try simp only [Act.put, List.setIfInBounds_toArray, List.set_cons_zero, List.set_cons_succ])
                refine take_d (i := 12) (some 4) (v := ?_) rfl rfl (by kernel_rfl) (by kernel_rfl) (by kernel_rfl) (fun _ _ _ h => h) (Or.inl ⟨by rfl, ?_⟩) (by assumption) ?_
                rotate_left; (intro w hSw; clear hSw; go_simp; try with_reducible rfl)
                all_goals (try simp only [Act.put, List.setIfInBounds_toArray, List.set_cons_zero, List.set_cons_succ])
                refine wpAnyH_done (by kernel_rfl) ?_ _
                (try refine NoPanic.normal ?_)
                have own := ad_own (l := l) (b := b) own HM.out HK.out hnl
                obtain ⟨A, cp, rfl, hcp, hS⟩ := rs_sl own
                obtain ⟨g', rfl, hge, hH⟩ := hS HP0.out
                clear own hS
                go_wp2
                go_ret
                exact ⟨g', cp, rfl, hcp, hH, .inr (Nat.le_of_succ_le hge), hB⟩
              exact AllReadyH.nil
            exact AllReadyH.nil
          exact AllReadyH.nil
        exact AllReadyH.nil
      exact AllReadyH.nil
    · rw [he] at hE
      skip
      have HQ := hide (HSM.out hnk he)
      clear he
      refine wp_region_noPanic ?_
      refine wp_region_held_drew (S := (fun w' => RR w.heap.size b w' ∧ RRo g i (atR l i) w')) (by kernel_rfl) ?hS021 (fun hHeld => ?_)
      case hS021 => exact ⟨rr_of (Has.drew i0), rro_of (Has.drew iL) (by omega)⟩
      have hB' : Below w.heap.size w (World.drew _) := Below.drew hB
      have iL' := Has.drew iL
      have i0' := Has.drew i0
      (try clear ciL); (try clear fiL)
      (try clear ci0); (try clear fi0)
      generalize hWW : World.drew _ = wx at *; clear hWW
      clear hB; have hB := hB'; clear hB'; clear iL ziL; have iL := iL'; clear iL'; have ziL := iL.2.2; clear i0 zi0; have i0 := i0'; clear i0'; have zi0 := i0.2.2
      refine take_d (i := 0) (some 9) (v := ?_) rfl rfl (by kernel_rfl) (by kernel_rfl) (by kernel_rfl) (fun _ _ _ h => h) (Or.inl ⟨by rfl, ?_⟩) (by assumption) ?_
      rotate_left; (intro w hSw; clear hSw; go_simp; try with_reducible rfl)
      all_goals (try simp only [Act.put, List.setIfInBounds_toArray, List.set_cons_zero, List.set_cons_succ])
      refine take_d (i := 1) (some 10) (v := ?_) rfl rfl (by kernel_rfl) (by kernel_rfl) (by kernel_rfl) (fun _ _ _ h => h) (Or.inl ⟨by rfl, ?_⟩) (by assumption) ?_
      rotate_left; (intro w hSw; clear hSw; go_simp; try with_reducible rfl)
      all_goals (try simp only [Act.put, List.setIfInBounds_toArray, List.set_cons_zero, List.set_cons_succ])
      refine take_d (i := 2) (some 11) (v := ?_) rfl rfl (by kernel_rfl) (by kernel_rfl) (by kernel_rfl) (fun _ _ _ h => h) (Or.inl ⟨by rfl, ?_⟩) (by assumption) ?_
      rotate_left; (intro w hSw; clear hSw; go_simp; try with_reducible rfl)
      all_goals (try simp only [Act.put, List.setIfInBounds_toArray, List.set_cons_zero, List.set_cons_succ])
      refine take_d (i := 3) (some 12) (v := ?_) rfl rfl (by kernel_rfl) (by kernel_rfl) (by kernel_rfl) (fun _ _ _ h => h) (Or.inl ⟨by rfl, ?_⟩) (by assumption) ?_
      rotate_left; (intro w hSw; clear hSw; go_simp; try with_reducible rfl)
      all_goals (try simp only [Act.put, List.setIfInBounds_toArray, List.set_cons_zero, List.set_cons_succ])
      refine take_d (i := 4) (some 13) (v := ?_) rfl rfl (by kernel_rfl) (by kernel_rfl) (by kernel_rfl) (fun _ _ _ h => h) (Or.inl ⟨by rfl, ?_⟩) (by assumption) ?_
      rotate_left; (intro w hSw; clear hSw; go_simp; try with_reducible rfl)
      all_goals (try simp only [Act.put, List.setIfInBounds_toArray, List.set_cons_zero, List.set_cons_succ])
      refine take_d (i := 5) (some 14) (v := ?_) rfl rfl (by kernel_rfl) (by kernel_rfl) (by kernel_rfl) (fun _ _ _ h => h) (Or.inl ⟨by rfl, ?_⟩) (by assumption) ?_
      rotate_left; (intro w hSw; clear hSw; go_simp; try with_reducible rfl)
      all_goals (try simp only [Act.put, List.setIfInBounds_toArray, List.set_cons_zero, List.set_cons_succ])
      refine take_d (i := 6) (some 15) (v := ?_) rfl rfl (by kernel_rfl) (by kernel_rfl) (by kernel_rfl) (fun _ _ _ h => h) (Or.inl ⟨by rfl, ?_⟩) (by assumption) ?_
      rotate_left; (intro w hSw; clear hSw; go_simp; try with_reducible rfl)
      all_goals (try simp only [Act.put, List.setIfInBounds_toArray, List.set_cons_zero, List.set_cons_succ])
      refine take_d (i := 7) (some 16) (v := ?_) rfl rfl (by kernel_rfl) (by kernel_rfl) (by kernel_rfl) (fun _ _ _ h => h) (Or.inl ⟨by rfl, ?_⟩) (by assumption) ?_
      rotate_left; (intro w hSw; clear hSw; go_simp; try with_reducible rfl)
      all_goals (try simp only [Act.put, List.setIfInBounds_toArray, List.set_cons_zero, List.set_cons_succ])
      refine take_d (i := 8) (some 17) (oi := _) (v := _) rfl rfl (by kernel_rfl) (by kernel_rfl) (by kernel_rfl) (fun _ _ _ h => h) (yieldsIf_load_mid (by rfl) _ _ rfl _ _ rfl _ _ (fun w h => h.2.r) Try.underlying22 rfl (by kernel_rfl)) (by assumption) ?_
      all_goals (try simp only [Act.put, List.setIfInBounds_toArray, List.set_cons_zero, List.set_cons_succ])
      refine take_d (i := 9) (some 18) (oi := _) (v := _) rfl rfl (by kernel_rfl) (by kernel_rfl) (by kernel_rfl) (fun _ _ _ h => h) (yieldsIf_load_mid (by rfl) _ _ rfl _ _ rfl _ _ (fun w h => h.1.r) Try.underlying22 rfl (by kernel_rfl)) (by assumption) ?_
      all_goals (try simp only [Act.put, List.setIfInBounds_toArray, List.set_cons_zero, List.set_cons_succ])
      refine take_d (i := 10) (some 19) (v := ?_) rfl rfl (by kernel_rfl) (by kernel_rfl) (by kernel_rfl) (fun _ _ _ h => h) (Or.inl ⟨by rfl, ?_⟩) (by assumption) ?_
      rotate_left; (intro w hSw; clear hSw; go_simp; try with_reducible rfl)
      all_goals (try simp only [Act.put, List.setIfInBounds_toArray, List.set_cons_zero, List.set_cons_succ])
      refine take_d (i := 11) (some 20) (v := ?_) rfl rfl (by kernel_rfl) (by kernel_rfl) (by kernel_rfl) (fun _ _ _ h => h) (Or.inl ⟨by rfl, ?_⟩) (by assumption) ?_
      rotate_left; (intro w hSw; clear hSw; go_simp; try with_reducible rfl)
      all_goals (try simp only [Act.put, List.setIfInBounds_toArray, List.set_cons_zero, List.set_cons_succ])
      refine wpAnyH_done (by kernel_rfl) ?_ _
      (try refine NoPanic.normal ?_)
      go_wp2
      go_ret
      exact ⟨g, cap, by rw [HQ.out, HK.out]; rfl, by rw [HQ.out, HK.out]; exact hcap, by rw [HQ.out, HK.out]; exact iL, .inl rfl, hB⟩
  · have hik : i = k := by omega
    subst hik
    have HTL : Hid ((rsV (l.take i)).length = i * 4) := hide (by rw [rsV_len, List.length_take, HK.out]; omega)
    have HM := hide (HMO.out fun h => absurd h hnk)
    have HP0 : Hid (0 < (adO ltR eqR l b).length * 4) := hide (by rw [HM.out]; simp; omega)
    have a3 : (i : Int) ≤ cap := by omega
    go_wp2_with fail
    go_quiet (fail)
    go_wp2_with fail
    generalize hWN : World.drewN _ _ = wr2
    have hB2 : Below w.heap.size w wr2 := by (rw [← hWN]; exact (by repeat (first | (with_reducible exact Below.refl _ _) | (with_reducible assumption) | (with_reducible refine below_go ?_ (by with_reducible assumption)) | (with_reducible refine below_new ?_ _) | ((with_reducible refine below_put ?_ ?_ _); rotate_left; (dsimp only; omega)) | (with_reducible refine Below.drew ?_) | (with_reducible refine below_dn ?_ _))))
    have i02 : Has wr2 w.heap.size 4 (fun o => .int .i64 (b o)) := by (rw [← hWN]; exact (by repeat (first | (with_reducible assumption) | (with_reducible apply Has.set) | ((with_reducible apply Has.other); (case hne => (dsimp only; omega))) | (with_reducible apply Has.alloc) | (with_reducible apply Has.drew) | (with_reducible apply Has.drewN))))
    have iL2 : Has wr2 g (i * 4) (rsC l) := by (rw [← hWN]; exact (by repeat (first | (with_reducible assumption) | (with_reducible apply Has.set) | ((with_reducible apply Has.other); (case hne => (dsimp only; omega))) | (with_reducible apply Has.alloc) | (with_reducible apply Has.drew) | (with_reducible apply Has.drewN))))
    clear hB i0 iL hWN ziL zi0
    have hB := hB2; have i0 := i02; have iL := iL2
    clear hB2 i02 iL2
    have ziL := iL.2.2
    have zi0 := i0.2.2
    by_cases hci : cap = i
    · have a4 := a3
      refine wp_region_noPanic ?_
      refine wp_region_held_drew (S := (fun w' => RR w.heap.size b w')) (by kernel_rfl) ?hS022 (fun hHeld => ?_)
      case hS022 => exact (rr_of (Has.drew i0))
      have hB' : Below w.heap.size w (World.drew _) := Below.drew hB
      have iL' := Has.drew iL
      have i0' := Has.drew i0
      (try clear ciL); (try clear fiL)
      (try clear ci0); (try clear fi0)
      generalize hWW : World.drew _ = wx at *; clear hWW
      clear hB; have hB := hB'; clear hB'; clear iL ziL; have iL := iL'; clear iL'; have ziL := iL.2.2; clear i0 zi0; have i0 := i0'; clear i0'; have zi0 := i0.2.2
      refine take_d (i := 1) (some 23) (v := ?_) rfl rfl (by kernel_rfl) (by kernel_rfl) (by kernel_rfl) (fun _ _ _ h => h) (Or.inl ⟨by rfl, ?_⟩) (by assumption) ?_
      rotate_left; (intro w hSw; clear hSw; go_simp; try with_reducible rfl)
      all_goals (try simp only [Act.put, List.setIfInBounds_toArray, List.set_cons_zero, List.set_cons_succ])
      refine take_d (i := 2) (some 24) (v := ?_) rfl rfl (by kernel_rfl) (by kernel_rfl) (by kernel_rfl) (fun _ _ _ h => h) (Or.inl ⟨by rfl, ?_⟩) (by assumption) ?_
      rotate_left; (intro w hSw; clear hSw; go_simp; try with_reducible rfl)
      all_goals (try simp only [Act.put, List.setIfInBounds_toArray, List.set_cons_zero, List.set_cons_succ])
      refine take_d (i := 3) (some 25) (v := ?_) rfl rfl (by kernel_rfl) (by kernel_rfl) (by kernel_rfl) (fun _ _ _ h => h) (Or.inl ⟨by rfl, ?_⟩) (by assumption) ?_
      rotate_left; (intro w hSw; clear hSw; go_simp; try with_reducible rfl)
      all_goals (try simp only [Act.put, List.setIfInBounds_toArray, List.set_cons_zero, List.set_cons_succ])
      refine take_d (i := 5) (some 27) (oi := _) (v := _) rfl rfl (by kernel_rfl) (by kernel_rfl) (by kernel_rfl) (fun _ _ _ h => h) (yieldsIf_load_mid (by rfl) _ _ rfl _ _ rfl _ _ (fun w h => h.r) Try.underlying22 rfl (by kernel_rfl)) (by assumption) ?_
      all_goals (try simp only [Act.put, List.setIfInBounds_toArray, List.set_cons_zero, List.set_cons_succ])
      refine take_d (i := 8) (some 30) (v := ?_) rfl rfl (by kernel_rfl) (by kernel_rfl) (by kernel_rfl) (fun _ _ _ h => h) (Or.inl ⟨by rfl, ?_⟩) (by assumption) ?_
      rotate_left; (intro w hSw; clear hSw; go_simp; try with_reducible rfl)
      all_goals (try simp only [Act.put, List.setIfInBounds_toArray, List.set_cons_zero, List.set_cons_succ])
      refine take_d (i := 9) (some 31) (v := ?_) rfl rfl (by kernel_rfl) (by kernel_rfl) (by kernel_rfl) (fun _ _ _ h => h) (Or.inl ⟨by rfl, ?_⟩) (by assumption) ?_
      rotate_left; (intro w hSw; clear hSw; go_simp; try with_reducible rfl)
      all_goals (try simp only [Act.put, List.setIfInBounds_toArray, List.set_cons_zero, List.set_cons_succ])
      refine take_d (i := 10) (some 32) (v := ?_) rfl rfl (by kernel_rfl) (by kernel_rfl) (by kernel_rfl) (fun _ _ _ h => h) (Or.inl ⟨by rfl, ?_⟩) (by assumption) ?_
      rotate_left; (intro w hSw; clear hSw; go_simp; try with_reducible rfl)
      all_goals (try simp only [Act.put, List.setIfInBounds_toArray, List.set_cons_zero, List.set_cons_succ])
      refine wpAnyH_ready (rs := [0, 6]) (by kernel_rfl) (by simp) ?_
      refine AllReadyH.cons (o := _) rfl (fun K hK => ?_) ?_
      ·
        go_simp
        generalize hW : World.alloc _ _ = w2
        have hB' : Below w.heap.size w w2 := by (rw [← hW]; exact below_new hB _)
        have iL' := Has.at hW (Has.alloc iL _)
        have i0' := Has.at hW (Has.alloc i0 _)
        have own : w2.ownsRow (w.heap.size + 1) 22 4 (.slice (some ⟨wx.heap.size, 0, none⟩) 0 0) 0 (rsV []) := by (rw [← hW]; exact World.ownsRow_made wx #[] 0 zi0 (Nat.zero_le _) rfl)
        clear hW; clear hB; have hB := hB'; clear hB'; clear iL ziL; have iL := iL'; clear iL'; have ziL := iL.2.2; clear i0 zi0; have i0 := i0'; clear i0'; have zi0 := i0.2.2
        generalize hS : (World.heap wx).size = E1 at *
        clear hS; generalize hWW : w2 = wx at *; clear hWW
        refine hK.out _ _ ?hS23 (fun hHeld => ?_)
        case hS23 => exact (rr_of i0)
        clear hK K
        (try simp only [Act.put, List.setIfInBounds_toArray, List.set_cons_zero, List.set_cons_succ])
        refine wpAnyH_ready (rs := [4, 6]) (by kernel_rfl) (by simp) ?_
        refine AllReadyH.cons (o := _) rfl (fun K hK => ?_) ?_
        ·
          rw [if_pos (by rfl)]
          (first | (refine wp_append_own _ _ _ 30 (by rfl) (w.heap.size + 1) 22 i0s (.agg #[.int .i64 0, .int .i64 0, .int .i64 0, .int .i64 0]) 4 32 Try.underlying30 hi0 hz0 hz1 hz2 rfl (by decide) _ _ _ (by rfl) own ⟨g, 0, none⟩ i _ (rsV (l.take i)) (by rfl) HTL.out (rs_take HK.out iL i) (rsV_ints _) (by unfold maxLen; omega) (by omega) zi0 ?_))
          intro v1 w2 hown' hgrow _
          change K (Act.put _ (some 26) _) _
          have hB' := hB.grown hgrow hB.size (fun q hq => Nat.le_of_succ_le (own.lt q hq).1)
          have iL' := iL.grown hgrow (own_at_ne own (Nat.lt_succ_of_lt hgl))
          have i0' := i0.grown hgrow (own_at_ne own (Nat.lt_succ_self _))
          clear own hgrow; have own := hown'; clear hown'; clear hB; have hB := hB'; clear hB'; clear iL ziL; have iL := iL'; clear iL'; have ziL := iL.2.2; clear i0 zi0; have i0 := i0'; clear i0'; have zi0 := i0.2.2
          generalize hWW : w2 = wx at *; clear hWW
          refine hK.out _ _ ?hS24 (fun hHeld => ?_)
          case hS24 => exact (rr_of i0)
          clear hK K
          (try simp only [Act.put, List.setIfInBounds_toArray, List.set_cons_zero, List.set_cons_succ])
          refine wpAnyH_ready (rs := [6]) (by kernel_rfl) (by simp) ?_
          refine AllReadyH.cons (o := _) rfl (fun K hK => ?_) ?_
          ·
            go_simp
            generalize hW : World.alloc _ _ = w2
            have hB' : Below w.heap.size w w2 := by (rw [← hW]; exact below_new hB _)
            have iL' := Has.at hW (Has.alloc iL _)
            have i0' := Has.at hW (Has.alloc i0 _)
            have jc := (Has.newat (n := 4) hW rfl).congr (d := fun o => .int .i64 (b o)) (fun o ho => lit4' b o ho)
            have own' := own_at hW own; clear own; have own := own'; clear own'
            clear hW; clear hB; have hB := hB'; clear hB'; clear iL ziL; have iL := iL'; clear iL'; have ziL := iL.2.2; clear i0 zi0; have i0 := i0'; clear i0'; have zi0 := i0.2.2
            generalize hS : (World.heap wx).size = C1 at *
            clear hS; generalize hWW : w2 = wx at *; clear hWW
            refine hK.out _ _ ?hS25 (fun hHeld => ?_)
            case hS25 => exact (rr_of i0)
            clear hK K
            (try simp only [Act.put, List.setIfInBounds_toArray, List.set_cons_zero, List.set_cons_succ])
            refine wpAnyH_ready (rs := [7]) (by kernel_rfl) (by simp) ?_
            refine AllReadyH.cons (o := _) rfl (fun K hK => ?_) ?_
            ·
              rw [if_pos (by rfl)]
              (first | (refine wp_append_own _ _ _ 30 (by rfl) (w.heap.size + 1) 22 i0s (.agg #[.int .i64 0, .int .i64 0, .int .i64 0, .int .i64 0]) 4 32 Try.underlying30 hi0 hz0 hz1 hz2 rfl (by decide) _ _ _ (by rfl) own ⟨C1, 0, none⟩ 1 1 (c4 b) (by rfl) rfl (rs_box jc) (c4_ints b) (by unfold maxLen; omega) (by omega) zi0 ?_))
              intro v2 w2 hown' hgrow _
              change K (Act.put _ (some 29) _) _
              have hB' := hB.grown hgrow hB.size (fun q hq => Nat.le_of_succ_le (own.lt q hq).1)
              have iL' := iL.grown hgrow (own_at_ne own (Nat.lt_succ_of_lt hgl))
              have i0' := i0.grown hgrow (own_at_ne own (Nat.lt_succ_self _))
              clear jc
              clear own hgrow; have own := hown'; clear hown'; clear hB; have hB := hB'; clear hB'; clear iL ziL; have iL := iL'; clear iL'; have ziL := iL.2.2; clear i0 zi0; have i0 := i0'; clear i0'; have zi0 := i0.2.2
              generalize hWW : w2 = wx at *; clear hWW
              refine hK.out _ _ ?hS26 (fun hHeld => ?_)
              case hS26 => exact (rr_of i0)
              clear hK K
              (try simp only [Act.put, List.setIfInBounds_toArray, List.set_cons_zero, List.set_cons_succ])
              refine wpAnyH_ready (rs := [11]) (by kernel_rfl) (by simp) ?_
              refine AllReadyH.cons (o := _) rfl (fun K hK => ?_) ?_
              ·
                rw [if_pos (by rfl)]
                (first | (refine wp_append_own _ _ _ 30 (by rfl) (w.heap.size + 1) 22 i0s (.agg #[.int .i64 0, .int .i64 0, .int .i64 0, .int .i64 0]) 4 32 Try.underlying30 hi0 hz0 hz1 hz2 rfl (by decide) _ _ _ (by rfl) own ⟨g, 0, none⟩ 0 _ [] (by rfl) (by simp) (fun j u h => by cases h) (fun u h => by cases h) (by unfold maxLen; omega) (by omega) zi0 ?_) | (refine wp_append_own _ _ _ 30 (by rfl) (w.heap.size + 1) 22 i0s (.agg #[.int .i64 0, .int .i64 0, .int .i64 0, .int .i64 0]) 4 32 Try.underlying30 hi0 hz0 hz1 hz2 rfl (by decide) _ _ _ (by rfl) own ⟨g, 0, none⟩ (i - i) _ [] (by rfl) (by simp) (fun j u h => by cases h) (fun u h => by cases h) (by unfold maxLen; omega) (by omega) zi0 ?_) | (refine wp_append_own _ _ _ 30 (by rfl) (w.heap.size + 1) 22 i0s (.agg #[.int .i64 0, .int .i64 0, .int .i64 0, .int .i64 0]) 4 32 Try.underlying30 hi0 hz0 hz1 hz2 rfl (by decide) _ _ _ (by rfl) own ⟨g, i * 4, none⟩ 0 _ [] (by rfl) (by simp) (fun j u h => by cases h) (fun u h => by cases h) (by unfold maxLen; omega) (by omega) zi0 ?_) | (refine wp_append_own _ _ _ 30 (by rfl) (w.heap.size + 1) 22 i0s (.agg #[.int .i64 0, .int .i64 0, .int .i64 0, .int .i64 0]) 4 32 Try.underlying30 hi0 hz0 hz1 hz2 rfl (by decide) _ _ _ (by rfl) own ⟨g, i * 4, none⟩ (i - i) _ [] (by rfl) (by simp) (fun j u h => by cases h) (fun u h => by cases h) (by unfold maxLen; omega) (by omega) zi0 ?_))
                intro v3 w2 hown' hgrow _
                change K (Act.put _ (some 33) _) _
                have hB' := hB.grown hgrow hB.size (fun q hq => Nat.le_of_succ_le (own.lt q hq).1)
                have iL' := iL.grown hgrow (own_at_ne own (Nat.lt_succ_of_lt hgl))
                have i0' := i0.grown hgrow (own_at_ne own (Nat.lt_succ_self _))
                clear own hgrow; have own := hown'; clear hown'; clear hB; have hB := hB'; clear hB'; clear iL ziL; have iL := iL'; clear iL'; have ziL := iL.2.2; clear i0 zi0; have i0 := i0'; clear i0'; have zi0 := i0.2.2
                generalize hWW : w2 = wx at *; clear hWW
                refine hK.out _ _ ?hS27 (fun hHeld => ?_)
                case hS27 => exact (rr_of i0)
                clear hK K
                (try simp only [Act.put, List.setIfInBounds_toArray, List.set_cons_zero, List.set_cons_succ])
                refine take_d (i := 12) (some 4) (v := ?_) rfl rfl (by kernel_rfl) (by kernel_rfl) (by kernel_rfl) (fun _ _ _ h => h) (Or.inl ⟨by rfl, ?_⟩) (by assumption) ?_
                rotate_left; (intro w hSw; clear hSw; go_simp; try with_reducible rfl)
                all_goals (try simp only [Act.put, List.setIfInBounds_toArray, List.set_cons_zero, List.set_cons_succ])
                refine wpAnyH_done (by kernel_rfl) ?_ _
                (try refine NoPanic.normal ?_)
                have own := ad_own0 (l := l) (b := b) own HM.out HK.out hnl
                obtain ⟨A, cp, rfl, hcp, hS⟩ := rs_sl own
                obtain ⟨g', rfl, hge, hH⟩ := hS HP0.out
                clear own hS
                go_wp2
                go_ret
                exact ⟨g', cp, rfl, hcp, hH, .inr (Nat.le_of_succ_le hge), hB⟩
              exact AllReadyH.nil
            exact AllReadyH.nil
          exact AllReadyH.nil
        refine AllReadyH.cons (o := _) rfl (fun K hK => ?_) ?_
        ·
          go_simp
          generalize hW : World.alloc _ _ = w2
          have hB' : Below w.heap.size w w2 := by (rw [← hW]; exact below_new hB _)
          have iL' := Has.at hW (Has.alloc iL _)
          have i0' := Has.at hW (Has.alloc i0 _)
          have jc := (Has.newat (n := 4) hW rfl).congr (d := fun o => .int .i64 (b o)) (fun o ho => lit4' b o ho)
          have hCE : E1 < wx.heap.size := (own.lt E1 rfl).2
          have own' := own_at hW own; clear own; have own := own'; clear own'
          clear hW; clear hB; have hB := hB'; clear hB'; clear iL ziL; have iL := iL'; clear iL'; have ziL := iL.2.2; clear i0 zi0; have i0 := i0'; clear i0'; have zi0 := i0.2.2
          generalize hS : (World.heap wx).size = C1 at *
          clear hS; generalize hWW : w2 = wx at *; clear hWW
          refine hK.out _ _ ?hS28 (fun hHeld => ?_)
          case hS28 => exact (rr_of i0)
          clear hK K
          (try simp only [Act.put, List.setIfInBounds_toArray, List.set_cons_zero, List.set_cons_succ])
          refine wpAnyH_ready (rs := [4]) (by kernel_rfl) (by simp) ?_
          refine AllReadyH.cons (o := _) rfl (fun K hK => ?_) ?_
          ·
            rw [if_pos (by rfl)]
            (first | (refine wp_append_own _ _ _ 30 (by rfl) (w.heap.size + 1) 22 i0s (.agg #[.int .i64 0, .int .i64 0, .int .i64 0, .int .i64 0]) 4 32 Try.underlying30 hi0 hz0 hz1 hz2 rfl (by decide) _ _ _ (by rfl) own ⟨g, 0, none⟩ i _ (rsV (l.take i)) (by rfl) HTL.out (rs_take HK.out iL i) (rsV_ints _) (by unfold maxLen; omega) (by omega) zi0 ?_))
            intro v1 w2 hown' hgrow _
            change K (Act.put _ (some 26) _) _
            have hB' := hB.grown hgrow hB.size (fun q hq => Nat.le_of_succ_le (own.lt q hq).1)
            have iL' := iL.grown hgrow (own_at_ne own (Nat.lt_succ_of_lt hgl))
            have i0' := i0.grown hgrow (own_at_ne own (Nat.lt_succ_self _))
            have jc' := jc.grown hgrow (by simp [Value.ownBlock]; omega); clear jc; have jc := jc'; clear jc'
            clear own hgrow; have own := hown'; clear hown'; clear hB; have hB := hB'; clear hB'; clear iL ziL; have iL := iL'; clear iL'; have ziL := iL.2.2; clear i0 zi0; have i0 := i0'; clear i0'; have zi0 := i0.2.2
            generalize hWW : w2 = wx at *; clear hWW
            refine hK.out _ _ ?hS29 (fun hHeld => ?_)
            case hS29 => exact (rr_of i0)
            clear hK K
            (try simp only [Act.put, List.setIfInBounds_toArray, List.set_cons_zero, List.set_cons_succ])
            refine wpAnyH_ready (rs := [7]) (by kernel_rfl) (by simp) ?_
            refine AllReadyH.cons (o := _) rfl (fun K hK => ?_) ?_
            ·
              rw [if_pos (by rfl)]
              (first | (refine wp_append_own _ _ _ 30 (by rfl) (w.heap.size + 1) 22 i0s (.agg #[.int .i64 0, .int .i64 0, .int .i64 0, .int .i64 0]) 4 32 Try.underlying30 hi0 hz0 hz1 hz2 rfl (by decide) _ _ _ (by rfl) own ⟨C1, 0, none⟩ 1 1 (c4 b) (by rfl) rfl (rs_box jc) (c4_ints b) (by unfold maxLen; omega) (by omega) zi0 ?_))
              intro v2 w2 hown' hgrow _
              change K (Act.put _ (some 29) _) _
              have hB' := hB.grown hgrow hB.size (fun q hq => Nat.le_of_succ_le (own.lt q hq).1)
              have iL' := iL.grown hgrow (own_at_ne own (Nat.lt_succ_of_lt hgl))
              have i0' := i0.grown hgrow (own_at_ne own (Nat.lt_succ_self _))
              clear jc
              clear own hgrow; have own := hown'; clear hown'; clear hB; have hB := hB'; clear hB'; clear iL ziL; have iL := iL'; clear iL'; have ziL := iL.2.2; clear i0 zi0; have i0 := i0'; clear i0'; have zi0 := i0.2.2
              generalize hWW : w2 = wx at *; clear hWW
              refine hK.out _ _ ?hS30 (fun hHeld => ?_)
              case hS30 => exact (rr_of i0)
              clear hK K
              (try simp only [Act.put, List.setIfInBounds_toArray, List.set_cons_zero, List.set_cons_succ])
              refine wpAnyH_ready (rs := [11]) (by kernel_rfl) (by simp) ?_
              refine AllReadyH.cons (o := _) rfl (fun K hK => ?_) ?_
              ·
                rw [if_pos (by rfl)]
                (first | (refine wp_append_own _ _ _ 30 (by rfl) (w.heap.size + 1) 22 i0s (.agg #[.int .i64 0, .int .i64 0, .int .i64 0, .int .i64 0]) 4 32 Try.underlying30 hi0 hz0 hz1 hz2 rfl (by decide) _ _ _ (by rfl) own ⟨g, 0, none⟩ 0 _ [] (by rfl) (by simp) (fun j u h => by cases h) (fun u h => by cases h) (by unfold maxLen; omega) (by omega) zi0 ?_) | (refine wp_append_own _ _ _ 30 (by rfl) (w.heap.size + 1) 22 i0s (.agg #[.int .i64 0, .int .i64 0, .int .i64 0, .int .i64 0]) 4 32 Try.underlying30 hi0 hz0 hz1 hz2 rfl (by decide) _ _ _ (by rfl) own ⟨g, 0, none⟩ (i - i) _ [] (by rfl) (by simp) (fun j u h => by cases h) (fun u h => by cases h) (by unfold maxLen; omega) (by omega) zi0 ?_) | (refine wp_append_own _ _ _ 30 (by rfl) (w.heap.size + 1) 22 i0s (.agg #[.int .i64 0, .int .i64 0, .int .i64 0, .int .i64 0]) 4 32 Try.underlying30 hi0 hz0 hz1 hz2 rfl (by decide) _ _ _ (by rfl) own ⟨g, i * 4, none⟩ 0 _ [] (by rfl) (by simp) (fun j u h => by cases h) (fun u h => by cases h) (by unfold maxLen; omega) (by omega) zi0 ?_) | (refine wp_append_own _ _ _ 30 (by rfl) (w.heap.size + 1) 22 i0s (.agg #[.int .i64 0, .int .i64 0, .int .i64 0, .int .i64 0]) 4 32 Try.underlying30 hi0 hz0 hz1 hz2 rfl (by decide) _ _ _ (by rfl) own ⟨g, i * 4, none⟩ (i - i) _ [] (by rfl) (by simp) (fun j u h => by cases h) (fun u h => by cases h) (by unfold maxLen; omega) (by omega) zi0 ?_))
                intro v3 w2 hown' hgrow _
                change K (Act.put _ (some 33) _) _
                have hB' := hB.grown hgrow hB.size (fun q hq => Nat.le_of_succ_le (own.lt q hq).1)
                have iL' := iL.grown hgrow (own_at_ne own (Nat.lt_succ_of_lt hgl))
                have i0' := i0.grown hgrow (own_at_ne own (Nat.lt_succ_self _))
                clear own hgrow; have own := hown'; clear hown'; clear hB; have hB := hB'; clear hB'; clear iL ziL; have iL := iL'; clear iL'; have ziL := iL.2.2; clear i0 zi0; have i0 := i0'; clear i0'; have zi0 := i0.2.2
                generalize hWW : w2 = wx at *; clear hWW
                refine hK.out _ _ ?hS31 (fun hHeld => ?_)
                case hS31 => exact (rr_of i0)
                clear hK K
                (try simp only [Act.put, List.setIfInBounds_toArray, List.set_cons_zero, List.set_cons_succ])
                refine take_d (i := 12) (some 4) (v := ?_) rfl rfl (by kernel_rfl) (by kernel_rfl) (by kernel_rfl) (fun _ _ _ h => h) (Or.inl ⟨by rfl, ?_⟩) (by assumption) ?_
                rotate_left; (intro w hSw; clear hSw; go_simp; try with_reducible rfl)
                all_goals (try simp only [Act.put, List.setIfInBounds_toArray, List.set_cons_zero, List.set_cons_succ])
                refine wpAnyH_done (by kernel_rfl) ?_ _
                (try refine NoPanic.normal ?_)
                have own := ad_own0 (l := l) (b := b) own HM.out HK.out hnl
                obtain ⟨A, cp, rfl, hcp, hS⟩ := rs_sl own
                obtain ⟨g', rfl, hge, hH⟩ := hS HP0.out
                clear own hS
                go_wp2
                go_ret
                exact ⟨g', cp, rfl, hcp, hH, .inr (Nat.le_of_succ_le hge), hB⟩
              exact AllReadyH.nil
            exact AllReadyH.nil
          exact AllReadyH.nil
        exact AllReadyH.nil
      refine AllReadyH.cons (o := _) rfl (fun K hK => ?_) ?_
      ·
        go_simp
        generalize hW : World.alloc _ _ = w2
        have hB' : Below w.heap.size w w2 := by (rw [← hW]; exact below_new hB _)
        have iL' := Has.at hW (Has.alloc iL _)
        have i0' := Has.at hW (Has.alloc i0 _)
        have jc := (Has.newat (n := 4) hW rfl).congr (d := fun o => .int .i64 (b o)) (fun o ho => lit4' b o ho)
        clear hW; clear hB; have hB := hB'; clear hB'; clear iL ziL; have iL := iL'; clear iL'; have ziL := iL.2.2; clear i0 zi0; have i0 := i0'; clear i0'; have zi0 := i0.2.2
        generalize hS : (World.heap wx).size = C1 at *
        clear hS; generalize hWW : w2 = wx at *; clear hWW
        refine hK.out _ _ ?hS32 (fun hHeld => ?_)
        case hS32 => exact (rr_of i0)
        clear hK K
        (try simp only [Act.put, List.setIfInBounds_toArray, List.set_cons_zero, List.set_cons_succ])
        refine wpAnyH_ready (rs := [0]) (by kernel_rfl) (by simp) ?_
        refine AllReadyH.cons (o := _) rfl (fun K hK => ?_) ?_
        ·
          go_simp
          generalize hW : World.alloc _ _ = w2
          have hB' : Below w.heap.size w w2 := by (rw [← hW]; exact below_new hB _)
          have iL' := Has.at hW (Has.alloc iL _)
          have i0' := Has.at hW (Has.alloc i0 _)
          have own : w2.ownsRow (w.heap.size + 1) 22 4 (.slice (some ⟨wx.heap.size, 0, none⟩) 0 0) 0 (rsV []) := by (rw [← hW]; exact World.ownsRow_made wx #[] 0 zi0 (Nat.zero_le _) rfl)
          have jc' := Has.at hW (Has.alloc jc _); have hCE := jc.2.2; clear jc; have jc := jc'; clear jc'
          clear hW; clear hB; have hB := hB'; clear hB'; clear iL ziL; have iL := iL'; clear iL'; have ziL := iL.2.2; clear i0 zi0; have i0 := i0'; clear i0'; have zi0 := i0.2.2
          generalize hS : (World.heap wx).size = E1 at *
          clear hS; generalize hWW : w2 = wx at *; clear hWW
          refine hK.out _ _ ?hS33 (fun hHeld => ?_)
          case hS33 => exact (rr_of i0)
          clear hK K
          (try simp only [Act.put, List.setIfInBounds_toArray, List.set_cons_zero, List.set_cons_succ])
          refine wpAnyH_ready (rs := [4]) (by kernel_rfl) (by simp) ?_
          refine AllReadyH.cons (o := _) rfl (fun K hK => ?_) ?_
          ·
            rw [if_pos (by rfl)]
            (first | (refine wp_append_own _ _ _ 30 (by rfl) (w.heap.size + 1) 22 i0s (.agg #[.int .i64 0, .int .i64 0, .int .i64 0, .int .i64 0]) 4 32 Try.underlying30 hi0 hz0 hz1 hz2 rfl (by decide) _ _ _ (by rfl) own ⟨g, 0, none⟩ i _ (rsV (l.take i)) (by rfl) HTL.out (rs_take HK.out iL i) (rsV_ints _) (by unfold maxLen; omega) (by omega) zi0 ?_))
            intro v1 w2 hown' hgrow _
            change K (Act.put _ (some 26) _) _
            have hB' := hB.grown hgrow hB.size (fun q hq => Nat.le_of_succ_le (own.lt q hq).1)
            have iL' := iL.grown hgrow (own_at_ne own (Nat.lt_succ_of_lt hgl))
            have i0' := i0.grown hgrow (own_at_ne own (Nat.lt_succ_self _))
            have jc' := jc.grown hgrow (by simp [Value.ownBlock]; omega); clear jc; have jc := jc'; clear jc'
            clear own hgrow; have own := hown'; clear hown'; clear hB; have hB := hB'; clear hB'; clear iL ziL; have iL := iL'; clear iL'; have ziL := iL.2.2; clear i0 zi0; have i0 := i0'; clear i0'; have zi0 := i0.2.2
            generalize hWW : w2 = wx at *; clear hWW
            refine hK.out _ _ ?hS34 (fun hHeld => ?_)
            case hS34 => exact (rr_of i0)
            clear hK K
            (try simp only [Act.put, List.setIfInBounds_toArray, List.set_cons_zero, List.set_cons_succ])
            refine wpAnyH_ready (rs := [7]) (by kernel_rfl) (by simp) ?_
            refine AllReadyH.cons (o := _) rfl (fun K hK => ?_) ?_
            ·
              rw [if_pos (by rfl)]
              (first | (refine wp_append_own _ _ _ 30 (by rfl) (w.heap.size + 1) 22 i0s (.agg #[.int .i64 0, .int .i64 0, .int .i64 0, .int .i64 0]) 4 32 Try.underlying30 hi0 hz0 hz1 hz2 rfl (by decide) _ _ _ (by rfl) own ⟨C1, 0, none⟩ 1 1 (c4 b) (by rfl) rfl (rs_box jc) (c4_ints b) (by unfold maxLen; omega) (by omega) zi0 ?_))
              intro v2 w2 hown' hgrow _
              change K (Act.put _ (some 29) _) _
              have hB' := hB.grown hgrow hB.size (fun q hq => Nat.le_of_succ_le (own.lt q hq).1)
              have iL' := iL.grown hgrow (own_at_ne own (Nat.lt_succ_of_lt hgl))
              have i0' := i0.grown hgrow (own_at_ne own (Nat.lt_succ_self _))
              clear jc
              clear own hgrow; have own := hown'; clear hown'; clear hB; have hB := hB'; clear hB'; clear iL ziL; have iL := iL'; clear iL'; have ziL := iL.2.2; clear i0 zi0; have i0 := i0'; clear i0'; have zi0 := i0.2.2
              generalize hWW : w2 = wx at *; clear hWW
              refine hK.out _ _ ?hS35 (fun hHeld => ?_)
              case hS35 => exact (rr_of i0)
              clear hK K
              (try simp only [Act.put, List.setIfInBounds_toArray, List.set_cons_zero, List.set_cons_succ])
              refine wpAnyH_ready (rs := [11]) (by kernel_rfl) (by simp) ?_
              refine AllReadyH.cons (o := _) rfl (fun K hK => ?_) ?_
              ·
                rw [if_pos (by rfl)]
                (first | (refine wp_append_own _ _ _ 30 (by rfl) (w.heap.size + 1) 22 i0s (.agg #[.int .i64 0, .int .i64 0, .int .i64 0, .int .i64 0]) 4 32 Try.underlying30 hi0 hz0 hz1 hz2 rfl (by decide) _ _ _ (by rfl) own ⟨g, 0, none⟩ 0 _ [] (by rfl) (by simp) (fun j u h => by cases h) (fun u h => by cases h) (by unfold maxLen; omega) (by omega) zi0 ?_) | (refine wp_append_own _ _ _ 30 (by rfl) (w.heap.size + 1) 22 i0s (.agg #[.int .i64 0, .int .i64 0, .int .i64 0, .int .i64 0]) 4 32 Try.underlying30 hi0 hz0 hz1 hz2 rfl (by decide) _ _ _ (by rfl) own ⟨g, 0, none⟩ (i - i) _ [] (by rfl) (by simp) (fun j u h => by cases h) (fun u h => by cases h) (by unfold maxLen; omega) (by omega) zi0 ?_) | (refine wp_append_own _ _ _ 30 (by rfl) (w.heap.size + 1) 22 i0s (.agg #[.int .i64 0, .int .i64 0, .int .i64 0, .int .i64 0]) 4 32 Try.underlying30 hi0 hz0 hz1 hz2 rfl (by decide) _ _ _ (by rfl) own ⟨g, i * 4, none⟩ 0 _ [] (by rfl) (by simp) (fun j u h => by cases h) (fun u h => by cases h) (by unfold maxLen; omega) (by omega) zi0 ?_) | (refine wp_append_own _ _ _ 30 (by rfl) (w.heap.size + 1) 22 i0s (.agg #[.int .i64 0, .int .i64 0, .int .i64 0, .int .i64 0]) 4 32 Try.underlying30 hi0 hz0 hz1 hz2 rfl (by decide) _ _ _ (by rfl) own ⟨g, i * 4, none⟩ (i - i) _ [] (by rfl) (by simp) (fun j u h => by cases h) (fun u h => by cases h) (by unfold maxLen; omega) (by omega) zi0 ?_))
                intro v3 w2 hown' hgrow _
                change K (Act.put _ (some 33) _) _
                have hB' := hB.grown hgrow hB.size (fun q hq => Nat.le_of_succ_le (own.lt q hq).1)
                have iL' := iL.grown hgrow (own_at_ne own (Nat.lt_succ_of_lt hgl))
                have i0' := i0.grown hgrow (own_at_ne own (Nat.lt_succ_self _))
                clear own hgrow; have own := hown'; clear hown'; clear hB; have hB := hB'; clear hB'; clear iL ziL; have iL := iL'; clear iL'; have ziL := iL.2.2; clear i0 zi0; have i0 := i0'; clear i0'; have zi0 := i0.2.2
                generalize hWW : w2 = wx at *; clear hWW
                refine hK.out _ _ ?hS36 (fun hHeld => ?_)
                case hS36 => exact (rr_of i0)
                clear hK K
                (try simp only [Act.put, List.setIfInBounds_toArray, List.set_cons_zero, List.set_cons_succ])
                refine take_d (i := 12) (some 4) (v := ?_) rfl rfl (by kernel_rfl) (by kernel_rfl) (by kernel_rfl) (fun _ _ _ h => h) (Or.inl ⟨by rfl, ?_⟩) (by assumption) ?_
                rotate_left; (intro w hSw; clear hSw; go_simp; try with_reducible rfl)
                all_goals (try simp only [Act.put, List.setIfInBounds_toArray, List.set_cons_zero, List.set_cons_succ])
                refine wpAnyH_done (by kernel_rfl) ?_ _
                (try refine NoPanic.normal ?_)
                have own := ad_own0 (l := l) (b := b) own HM.out HK.out hnl
                obtain ⟨A, cp, rfl, hcp, hS⟩ := rs_sl own
                obtain ⟨g', rfl, hge, hH⟩ := hS HP0.out
                clear own hS
                go_wp2
                go_ret
                exact ⟨g', cp, rfl, hcp, hH, .inr (Nat.le_of_succ_le hge), hB⟩
              exact AllReadyH.nil
            exact AllReadyH.nil
          exact AllReadyH.nil
        exact AllReadyH.nil
      exact AllReadyH.nil
    · have a4 := a3
      refine wp_region_noPanic ?_
      refine wp_region_held_drew (S := (fun w' => RR w.heap.size b w')) (by kernel_rfl) ?hS037 (fun hHeld => ?_)
      case hS037 => exact (rr_of (Has.drew i0))
      have hB' : Below w.heap.size w (World.drew _) := Below.drew hB
      have iL' := Has.drew iL
      have i0' := Has.drew i0
      (try clear ciL); (try clear fiL)
      (try clear ci0); (try clear fi0)
      generalize hWW : World.drew _ = wx at *; clear hWW
      clear hB; have hB := hB'; clear hB'; clear iL ziL; have iL := iL'; clear iL'; have ziL := iL.2.2; clear i0 zi0; have i0 := i0'; clear i0'; have zi0 := i0.2.2
      refine take_d (i := 1) (some 23) (v := ?_) rfl rfl (by kernel_rfl) (by kernel_rfl) (by kernel_rfl) (fun _ _ _ h => h) (Or.inl ⟨by rfl, ?_⟩) (by assumption) ?_
      rotate_left; (intro w hSw; clear hSw; go_simp; try with_reducible rfl)
      all_goals (try simp only [Act.put, List.setIfInBounds_toArray, List.set_cons_zero, List.set_cons_succ])
      refine take_d (i := 2) (some 24) (v := ?_) rfl rfl (by kernel_rfl) (by kernel_rfl) (by kernel_rfl) (fun _ _ _ h => h) (Or.inl ⟨by rfl, ?_⟩) (by assumption) ?_
      rotate_left; (intro w hSw; clear hSw; go_simp; try with_reducible rfl)
      all_goals (try simp only [Act.put, List.setIfInBounds_toArray, List.set_cons_zero, List.set_cons_succ])
      refine take_d (i := 3) (some 25) (v := ?_) rfl rfl (by kernel_rfl) (by kernel_rfl) (by kernel_rfl) (fun _ _ _ h => h) (Or.inl ⟨by rfl, ?_⟩) (by assumption) ?_
      rotate_left; (intro w hSw; clear hSw; go_simp; try with_reducible rfl)
      all_goals (try simp only [Act.put, List.setIfInBounds_toArray, List.set_cons_zero, List.set_cons_succ])
      refine take_d (i := 5) (some 27) (oi := _) (v := _) rfl rfl (by kernel_rfl) (by kernel_rfl) (by kernel_rfl) (fun _ _ _ h => h) (yieldsIf_load_mid (by rfl) _ _ rfl _ _ rfl _ _ (fun w h => h.r) Try.underlying22 rfl (by kernel_rfl)) (by assumption) ?_
      all_goals (try simp only [Act.put, List.setIfInBounds_toArray, List.set_cons_zero, List.set_cons_succ])
      refine take_d (i := 8) (some 30) (v := ?_) rfl rfl (by kernel_rfl) (by kernel_rfl) (by kernel_rfl) (fun _ _ _ h => h) (Or.inl ⟨by rfl, ?_⟩) (by assumption) ?_
      rotate_left; (intro w hSw; clear hSw; go_simp; try with_reducible rfl)
      all_goals (try simp only [Act.put, List.setIfInBounds_toArray, List.set_cons_zero, List.set_cons_succ])
      refine take_d (i := 9) (some 31) (v := ?_) rfl rfl (by kernel_rfl) (by kernel_rfl) (by kernel_rfl) (fun _ _ _ h => h) (Or.inl ⟨by rfl, ?_⟩) (by assumption) ?_
      rotate_left; (intro w hSw; clear hSw; go_simp; try with_reducible rfl)
      all_goals (try simp only [Act.put, List.setIfInBounds_toArray, List.set_cons_zero, List.set_cons_succ])
      refine take_d (i := 10) (some 32) (v := ?_) rfl rfl (by kernel_rfl) (by kernel_rfl) (by kernel_rfl) (fun _ _ _ h => h) (Or.inl ⟨by rfl, ?_⟩) (by assumption) ?_
      rotate_left; (intro w hSw; clear hSw; go_simp; try with_reducible rfl)
      all_goals (try simp only [Act.put, List.setIfInBounds_toArray, List.set_cons_zero, List.set_cons_succ])
      refine wpAnyH_ready (rs := [0, 6]) (by kernel_rfl) (by simp) ?_
      refine AllReadyH.cons (o := _) rfl (fun K hK => ?_) ?_
      ·
        go_simp
        generalize hW : World.alloc _ _ = w2
        have hB' : Below w.heap.size w w2 := by (rw [← hW]; exact below_new hB _)
        have iL' := Has.at hW (Has.alloc iL _)
        have i0' := Has.at hW (Has.alloc i0 _)
        have own : w2.ownsRow (w.heap.size + 1) 22 4 (.slice (some ⟨wx.heap.size, 0, none⟩) 0 0) 0 (rsV []) := by (rw [← hW]; exact World.ownsRow_made wx #[] 0 zi0 (Nat.zero_le _) rfl)
        clear hW; clear hB; have hB := hB'; clear hB'; clear iL ziL; have iL := iL'; clear iL'; have ziL := iL.2.2; clear i0 zi0; have i0 := i0'; clear i0'; have zi0 := i0.2.2
        generalize hS : (World.heap wx).size = E1 at *
        clear hS; generalize hWW : w2 = wx at *; clear hWW
        refine hK.out _ _ ?hS38 (fun hHeld => ?_)
        case hS38 => exact (rr_of i0)
        clear hK K
        (try simp only [Act.put, List.setIfInBounds_toArray, List.set_cons_zero, List.set_cons_succ])
        refine wpAnyH_ready (rs := [4, 6]) (by kernel_rfl) (by simp) ?_
        refine AllReadyH.cons (o := _) rfl (fun K hK => ?_) ?_
        ·
          rw [if_pos (by rfl)]
          (first | (refine wp_append_own _ _ _ 30 (by rfl) (w.heap.size + 1) 22 i0s (.agg #[.int .i64 0, .int .i64 0, .int .i64 0, .int .i64 0]) 4 32 Try.underlying30 hi0 hz0 hz1 hz2 rfl (by decide) _ _ _ (by rfl) own ⟨g, 0, none⟩ i _ (rsV (l.take i)) (by rfl) HTL.out (rs_take HK.out iL i) (rsV_ints _) (by unfold maxLen; omega) (by omega) zi0 ?_))
          intro v1 w2 hown' hgrow _
          change K (Act.put _ (some 26) _) _
          have hB' := hB.grown hgrow hB.size (fun q hq => Nat.le_of_succ_le (own.lt q hq).1)
          have iL' := iL.grown hgrow (own_at_ne own (Nat.lt_succ_of_lt hgl))
          have i0' := i0.grown hgrow (own_at_ne own (Nat.lt_succ_self _))
          clear own hgrow; have own := hown'; clear hown'; clear hB; have hB := hB'; clear hB'; clear iL ziL; have iL := iL'; clear iL'; have ziL := iL.2.2; clear i0 zi0; have i0 := i0'; clear i0'; have zi0 := i0.2.2
          generalize hWW : w2 = wx at *; clear hWW
          refine hK.out _ _ ?hS39 (fun hHeld => ?_)
          case hS39 => exact (rr_of i0)
          clear hK K
          (try simp only [Act.put, List.setIfInBounds_toArray, List.set_cons_zero, List.set_cons_succ])
          refine wpAnyH_ready (rs := [6]) (by kernel_rfl) (by simp) ?_
          refine AllReadyH.cons (o := _) rfl (fun K hK => ?_) ?_
          ·
            go_simp
            generalize hW : World.alloc _ _ = w2
            have hB' : Below w.heap.size w w2 := by (rw [← hW]; exact below_new hB _)
            have iL' := Has.at hW (Has.alloc iL _)
            have i0' := Has.at hW (Has.alloc i0 _)
            have jc := (Has.newat (n := 4) hW rfl).congr (d := fun o => .int .i64 (b o)) (fun o ho => lit4' b o ho)
            have own' := own_at hW own; clear own; have own := own'; clear own'
            clear hW; clear hB; have hB := hB'; clear hB'; clear iL ziL; have iL := iL'; clear iL'; have ziL := iL.2.2; clear i0 zi0; have i0 := i0'; clear i0'; have zi0 := i0.2.2
            generalize hS : (World.heap wx).size = C1 at *
            clear hS; generalize hWW : w2 = wx at *; clear hWW
            refine hK.out _ _ ?hS40 (fun hHeld => ?_)
            case hS40 => exact (rr_of i0)
            clear hK K
            (try simp only [Act.put, List.setIfInBounds_toArray, List.set_cons_zero, List.set_cons_succ])
            refine wpAnyH_ready (rs := [7]) (by kernel_rfl) (by simp) ?_
            refine AllReadyH.cons (o := _) rfl (fun K hK => ?_) ?_
            ·
              rw [if_pos (by rfl)]
              (first | (refine wp_append_own _ _ _ 30 (by rfl) (w.heap.size + 1) 22 i0s (.agg #[.int .i64 0, .int .i64 0, .int .i64 0, .int .i64 0]) 4 32 Try.underlying30 hi0 hz0 hz1 hz2 rfl (by decide) _ _ _ (by rfl) own ⟨C1, 0, none⟩ 1 1 (c4 b) (by rfl) rfl (rs_box jc) (c4_ints b) (by unfold maxLen; omega) (by omega) zi0 ?_))
              intro v2 w2 hown' hgrow _
              change K (Act.put _ (some 29) _) _
              have hB' := hB.grown hgrow hB.size (fun q hq => Nat.le_of_succ_le (own.lt q hq).1)
              have iL' := iL.grown hgrow (own_at_ne own (Nat.lt_succ_of_lt hgl))
              have i0' := i0.grown hgrow (own_at_ne own (Nat.lt_succ_self _))
              clear jc
              clear own hgrow; have own := hown'; clear hown'; clear hB; have hB := hB'; clear hB'; clear iL ziL; have iL := iL'; clear iL'; have ziL := iL.2.2; clear i0 zi0; have i0 := i0'; clear i0'; have zi0 := i0.2.2
              generalize hWW : w2 = wx at *; clear hWW
              refine hK.out _ _ ?hS41 (fun hHeld => ?_)
              case hS41 => exact (rr_of i0)
              clear hK K
              (try simp only [Act.put, List.setIfInBounds_toArray, List.set_cons_zero, List.set_cons_succ])
              refine wpAnyH_ready (rs := [11]) (by kernel_rfl) (by simp) ?_
              refine AllReadyH.cons (o := _) rfl (fun K hK => ?_) ?_
              ·
                rw [if_pos (by rfl)]
                (first | (refine wp_append_own _ _ _ 30 (by rfl) (w.heap.size + 1) 22 i0s (.agg #[.int .i64 0, .int .i64 0, .int .i64 0, .int .i64 0]) 4 32 Try.underlying30 hi0 hz0 hz1 hz2 rfl (by decide) _ _ _ (by rfl) own ⟨g, 0, none⟩ 0 _ [] (by rfl) (by simp) (fun j u h => by cases h) (fun u h => by cases h) (by unfold maxLen; omega) (by omega) zi0 ?_) | (refine wp_append_own _ _ _ 30 (by rfl) (w.heap.size + 1) 22 i0s (.agg #[.int .i64 0, .int .i64 0, .int .i64 0, .int .i64 0]) 4 32 Try.underlying30 hi0 hz0 hz1 hz2 rfl (by decide) _ _ _ (by rfl) own ⟨g, 0, none⟩ (i - i) _ [] (by rfl) (by simp) (fun j u h => by cases h) (fun u h => by cases h) (by unfold maxLen; omega) (by omega) zi0 ?_) | (refine wp_append_own _ _ _ 30 (by rfl) (w.heap.size + 1) 22 i0s (.agg #[.int .i64 0, .int .i64 0, .int .i64 0, .int .i64 0]) 4 32 Try.underlying30 hi0 hz0 hz1 hz2 rfl (by decide) _ _ _ (by rfl) own ⟨g, i * 4, none⟩ 0 _ [] (by rfl) (by simp) (fun j u h => by cases h) (fun u h => by cases h) (by unfold maxLen; omega) (by omega) zi0 ?_) | (refine wp_append_own _ _ _ 30 (by rfl) (w.heap.size + 1) 22 i0s (.agg #[.int .i64 0, .int .i64 0, .int .i64 0, .int .i64 0]) 4 32 Try.underlying30 hi0 hz0 hz1 hz2 rfl (by decide) _ _ _ (by rfl) own ⟨g, i * 4, none⟩ (i - i) _ [] (by rfl) (by simp) (fun j u h => by cases h) (fun u h => by cases h) (by unfold maxLen; omega) (by omega) zi0 ?_))
                intro v3 w2 hown' hgrow _
                change K (Act.put _ (some 33) _) _
                have hB' := hB.grown hgrow hB.size (fun q hq => Nat.le_of_succ_le (own.lt q hq).1)
                have iL' := iL.grown hgrow (own_at_ne own (Nat.lt_succ_of_lt hgl))
                have i0' := i0.grown hgrow (own_at_ne own (Nat.lt_succ_self _))
                clear own hgrow; have own := hown'; clear hown'; clear hB; have hB := hB'; clear hB'; clear iL ziL; have iL := iL'; clear iL'; have ziL := iL.2.2; clear i0 zi0; have i0 := i0'; clear i0'; have zi0 := i0.2.2
                generalize hWW : w2 = wx at *; clear hWW
                refine hK.out _ _ ?hS42 (fun hHeld => ?_)
                case hS42 => exact (rr_of i0)
                clear hK K
                (try simp only [Act.put, List.setIfInBounds_toArray, List.set_cons_zero, List.set_cons_succ])
                refine take_d (i := 12) (some 4) (v := ?_) rfl rfl (by kernel_rfl) (by kernel_rfl) (by kernel_rfl) (fun _ _ _ h => h) (Or.inl ⟨by rfl, ?_⟩) (by assumption) ?_
                rotate_left; (intro w hSw; clear hSw; go_simp; try with_reducible rfl)
                all_goals (try simp only [Act.put, List.setIfInBounds_toArray, List.set_cons_zero, List.set_cons_succ])
                refine wpAnyH_done (by kernel_rfl) ?_ _
                (try refine NoPanic.normal ?_)
                have own := ad_own0 (l := l) (b := b) own HM.out HK.out hnl
                obtain ⟨A, cp, rfl, hcp, hS⟩ := rs_sl own
                obtain ⟨g', rfl, hge, hH⟩ := hS HP0.out
                clear own hS
                go_wp2
                go_ret
                exact ⟨g', cp, rfl, hcp, hH, .inr (Nat.le_of_succ_le hge), hB⟩
              exact AllReadyH.nil
            exact AllReadyH.nil
          exact AllReadyH.nil
        refine AllReadyH.cons (o := _) rfl (fun K hK => ?_) ?_
        ·
          go_simp
          generalize hW : World.alloc _ _ = w2
          have hB' : Below w.heap.size w w2 := by (rw [← hW]; exact below_new hB _)
          have iL' := Has.at hW (Has.alloc iL _)
          have i0' := Has.at hW (Has.alloc i0 _)
          have jc := (Has.newat (n := 4) hW rfl).congr (d := fun o => .int .i64 (b o)) (fun o ho => lit4' b o ho)
          have hCE : E1 < wx.heap.size := (own.lt E1 rfl).2
          have own' := own_at hW own; clear own; have own := own'; clear own'
          clear hW; clear hB; have hB := hB'; clear hB'; clear iL ziL; have iL := iL'; clear iL'; have ziL := iL.2.2; clear i0 zi0; have i0 := i0'; clear i0'; have zi0 := i0.2.2
          generalize hS : (World.heap wx).size = C1 at *
          clear hS; generalize hWW : w2 = wx at *; clear hWW
          refine hK.out _ _ ?hS43 (fun hHeld => ?_)
          case hS43 => exact (rr_of i0)
          clear hK K
          (try simp only [Act.put, List.setIfInBounds_toArray, List.set_cons_zero, List.set_cons_succ])
          refine wpAnyH_ready (rs := [4]) (by kernel_rfl) (by simp) ?_
          refine AllReadyH.cons (o := _) rfl (fun K hK => ?_) ?_
          ·
            rw [if_pos (by rfl)]
            (first | (refine wp_append_own _ _ _ 30 (by rfl) (w.heap.size + 1) 22 i0s (.agg #[.int .i64 0, .int .i64 0, .int .i64 0, .int .i64 0]) 4 32 Try.underlying30 hi0 hz0 hz1 hz2 rfl (by decide) _ _ _ (by rfl) own ⟨g, 0, none⟩ i _ (rsV (l.take i)) (by rfl) HTL.out (rs_take HK.out iL i) (rsV_ints _) (by unfold maxLen; omega) (by omega) zi0 ?_))
            intro v1 w2 hown' hgrow _
            change K (Act.put _ (some 26) _) _
            have hB' := hB.grown hgrow hB.size (fun q hq => Nat.le_of_succ_le (own.lt q hq).1)
            have iL' := iL.grown hgrow (own_at_ne own (Nat.lt_succ_of_lt hgl))
            have i0' := i0.grown hgrow (own_at_ne own (Nat.lt_succ_self _))
            have jc' := jc.grown hgrow (by simp [Value.ownBlock]; omega); clear jc; have jc := jc'; clear jc'
            clear own hgrow; have own := hown'; clear hown'; clear hB; have hB := hB'; clear hB'; clear iL ziL; have iL := iL'; clear iL'; have ziL := iL.2.2; clear i0 zi0; have i0 := i0'; clear i0'; have zi0 := i0.2.2
            generalize hWW : w2 = wx at *; clear hWW
            refine hK.out _ _ ?hS44 (fun hHeld => ?_)
            case hS44 => exact (rr_of i0)
            clear hK K
            (try simp only [Act.put, List.setIfInBounds_toArray, List.set_cons_zero, List.set_cons_succ])
            refine wpAnyH_ready (rs := [7]) (by kernel_rfl) (by simp) ?_
            refine AllReadyH.cons (o := _) rfl (fun K hK => ?_) ?_
            ·
              rw [if_pos (by rfl)]
              (first | (refine wp_append_own _ _ _ 30 (by rfl) (w.heap.size + 1) 22 i0s (.agg #[.int .i64 0, .int .i64 0, .int .i64 0, .int .i64 0]) 4 32 Try.underlying30 hi0 hz0 hz1 hz2 rfl (by decide) _ _ _ (by rfl) own ⟨C1, 0, none⟩ 1 1 (c4 b) (by rfl) rfl (rs_box jc) (c4_ints b) (by unfold maxLen; omega) (by omega) zi0 ?_))
              intro v2 w2 hown' hgrow _
              change K (Act.put _ (some 29) _) _
              have hB' := hB.grown hgrow hB.size (fun q hq => Nat.le_of_succ_le (own.lt q hq).1)
              have iL' := iL.grown hgrow (own_at_ne own (Nat.lt_succ_of_lt hgl))
              have i0' := i0.grown hgrow (own_at_ne own (Nat.lt_succ_self _))
              clear jc
              clear own hgrow; have own := hown'; clear hown'; clear hB; have hB := hB'; clear hB'; clear iL ziL; have iL := iL'; clear iL'; have ziL := iL.2.2; clear i0 zi0; have i0 := i0'; clear i0'; have zi0 := i0.2.2
              generalize hWW : w2 = wx at *; clear hWW
              refine hK.out _ _ ?hS45 (fun hHeld => ?_)
              case hS45 => exact (rr_of i0)
              clear hK K
              (try simp only [Act.put, List.setIfInBounds_toArray, List.set_cons_zero, List.set_cons_succ])
              refine wpAnyH_ready (rs := [11]) (by kernel_rfl) (by simp) ?_
              refine AllReadyH.cons (o := _) rfl (fun K hK => ?_) ?_
              ·
                rw [if_pos (by rfl)]
                (first | (refine wp_append_own _ _ _ 30 (by rfl) (w.heap.size + 1) 22 i0s (.agg #[.int .i64 0, .int .i64 0, .int .i64 0, .int .i64 0]) 4 32 Try.underlying30 hi0 hz0 hz1 hz2 rfl (by decide) _ _ _ (by rfl) own ⟨g, 0, none⟩ 0 _ [] (by rfl) (by simp) (fun j u h => by cases h) (fun u h => by cases h) (by unfold maxLen; omega) (by omega) zi0 ?_) | (refine wp_append_own _ _ _ 30 (by rfl) (w.heap.size + 1) 22 i0s (.agg #[.int .i64 0, .int .i64 0, .int .i64 0, .int .i64 0]) 4 32 Try.underlying30 hi0 hz0 hz1 hz2 rfl (by decide) _ _ _ (by rfl) own ⟨g, 0, none⟩ (i - i) _ [] (by rfl) (by simp) (fun j u h => by cases h) (fun u h => by cases h) (by unfold maxLen; omega) (by omega) zi0 ?_) | (refine wp_append_own _ _ _ 30 (by rfl) (w.heap.size + 1) 22 i0s (.agg #[.int .i64 0, .int .i64 0, .int .i64 0, .int .i64 0]) 4 32 Try.underlying30 hi0 hz0 hz1 hz2 rfl (by decide) _ _ _ (by rfl) own ⟨g, i * 4, none⟩ 0 _ [] (by rfl) (by simp) (fun j u h => by cases h) (fun u h => by cases h) (by unfold maxLen; omega) (by omega) zi0 ?_) | (refine wp_append_own _ _ _ 30 (by rfl) (w.heap.size + 1) 22 i0s (.agg #[.int .i64 0, .int .i64 0, .int .i64 0, .int .i64 0]) 4 32 Try.underlying30 hi0 hz0 hz1 hz2 rfl (by decide) _ _ _ (by rfl) own ⟨g, i * 4, none⟩ (i - i) _ [] (by rfl) (by simp) (fun j u h => by cases h) (fun u h => by cases h) (by unfold maxLen; omega) (by omega) zi0 ?_))
                intro v3 w2 hown' hgrow _
                change K (Act.put _ (some 33) _) _
                have hB' := hB.grown hgrow hB.size (fun q hq => Nat.le_of_succ_le (own.lt q hq).1)
                have iL' := iL.grown hgrow (own_at_ne own (Nat.lt_succ_of_lt hgl))
                have i0' := i0.grown hgrow (own_at_ne own (Nat.lt_succ_self _))
                clear own hgrow; have own := hown'; clear hown'; clear hB; have hB := hB'; clear hB'; clear iL ziL; have iL := iL'; clear iL'; have ziL := iL.2.2; clear i0 zi0; have i0 := i0'; clear i0'; have zi0 := i0.2.2
                generalize hWW : w2 = wx at *; clear hWW
                refine hK.out _ _ ?hS46 (fun hHeld => ?_)
                case hS46 => exact (rr_of i0)
                clear hK K
                (try simp only [Act.put, List.setIfInBounds_toArray, List.set_cons_zero, List.set_cons_succ])
                refine take_d (i := 12) (some 4) (v := ?_) rfl rfl (by kernel_rfl) (by kernel_rfl) (by kernel_rfl) (fun _ _ _ h => h) (Or.inl ⟨by rfl, ?_⟩) (by assumption) ?_
                rotate_left; (intro w hSw; clear hSw; go_simp; try with_reducible rfl)
                all_goals (try simp only [Act.put, List.setIfInBounds_toArray, List.set_cons_zero, List.set_cons_succ])
                refine wpAnyH_done (by kernel_rfl) ?_ _
                (try refine NoPanic.normal ?_)
                have own := ad_own0 (l := l) (b := b) own HM.out HK.out hnl
                obtain ⟨A, cp, rfl, hcp, hS⟩ := rs_sl own
                obtain ⟨g', rfl, hge, hH⟩ := hS HP0.out
                clear own hS
                go_wp2
                go_ret
                exact ⟨g', cp, rfl, hcp, hH, .inr (Nat.le_of_succ_le hge), hB⟩
              exact AllReadyH.nil
            exact AllReadyH.nil
          exact AllReadyH.nil
        exact AllReadyH.nil
      refine AllReadyH.cons (o := _) rfl (fun K hK => ?_) ?_
      ·
        go_simp
        generalize hW : World.alloc _ _ = w2
        have hB' : Below w.heap.size w w2 := by (rw [← hW]; exact below_new hB _)
        have iL' := Has.at hW (Has.alloc iL _)
        have i0' := Has.at hW (Has.alloc i0 _)
        have jc := (Has.newat (n := 4) hW rfl).congr (d := fun o => .int .i64 (b o)) (fun o ho => lit4' b o ho)
        clear hW; clear hB; have hB := hB'; clear hB'; clear iL ziL; have iL := iL'; clear iL'; have ziL := iL.2.2; clear i0 zi0; have i0 := i0'; clear i0'; have zi0 := i0.2.2
        generalize hS : (World.heap wx).size = C1 at *
        clear hS; generalize hWW : w2 = wx at *; clear hWW
        refine hK.out _ _ ?hS47 (fun hHeld => ?_)
        case hS47 => exact (rr_of i0)
        clear hK K
        (try simp only [Act.put, List.setIfInBounds_toArray, List.set_cons_zero, List.set_cons_succ])
        refine wpAnyH_ready (rs := [0]) (by kernel_rfl) (by simp) ?_
        refine AllReadyH.cons (o := _) rfl (fun K hK => ?_) ?_
        ·
          go_simp
          generalize hW : World.alloc _ _ = w2
          have hB' : Below w.heap.size w w2 := by (rw [← hW]; exact below_new hB _)
          have iL' := Has.at hW (Has.alloc iL _)
          have i0' := Has.at hW (Has.alloc i0 _)
          have own : w2.ownsRow (w.heap.size + 1) 22 4 (.slice (some ⟨wx.heap.size, 0, none⟩) 0 0) 0 (rsV []) := by (rw [← hW]; exact World.ownsRow_made wx #[] 0 zi0 (Nat.zero_le _) rfl)
          have jc' := Has.at hW (Has.alloc jc _); have hCE := jc.2.2; clear jc; have jc := jc'; clear jc'
          clear hW; clear hB; have hB := hB'; clear hB'; clear iL ziL; have iL := iL'; clear iL'; have ziL := iL.2.2; clear i0 zi0; have i0 := i0'; clear i0'; have zi0 := i0.2.2
          generalize hS : (World.heap wx).size = E1 at *
          clear hS; generalize hWW : w2 = wx at *; clear hWW
          refine hK.out _ _ ?hS48 (fun hHeld => ?_)
          case hS48 => exact (rr_of i0)
          clear hK K
          (try simp only [Act.put, List.setIfInBounds_toArray, List.set_cons_zero, List.set_cons_succ])
          refine wpAnyH_ready (rs := [4]) (by kernel_rfl) (by simp) ?_
          refine AllReadyH.cons (o := _) rfl (fun K hK => ?_) ?_
          ·
            rw [if_pos (by rfl)]
            (first | (refine wp_append_own _ _ _ 30 (by rfl) (w.heap.size + 1) 22 i0s (.agg #[.int .i64 0, .int .i64 0, .int .i64 0, .int .i64 0]) 4 32 Try.underlying30 hi0 hz0 hz1 hz2 rfl (by decide) _ _ _ (by rfl) own ⟨g, 0, none⟩ i _ (rsV (l.take i)) (by rfl) HTL.out (rs_take HK.out iL i) (rsV_ints _) (by unfold maxLen; omega) (by omega) zi0 ?_))
            intro v1 w2 hown' hgrow _
            change K (Act.put _ (some 26) _) _
            have hB' := hB.grown hgrow hB.size (fun q hq => Nat.le_of_succ_le (own.lt q hq).1)
            have iL' := iL.grown hgrow (own_at_ne own (Nat.lt_succ_of_lt hgl))
            have i0' := i0.grown hgrow (own_at_ne own (Nat.lt_succ_self _))
            have jc' := jc.grown hgrow (by simp [Value.ownBlock]; omega); clear jc; have jc := jc'; clear jc'
            clear own hgrow; have own := hown'; clear hown'; clear hB; have hB := hB'; clear hB'; clear iL ziL; have iL := iL'; clear iL'; have ziL := iL.2.2; clear i0 zi0; have i0 := i0'; clear i0'; have zi0 := i0.2.2
            generalize hWW : w2 = wx at *; clear hWW
            refine hK.out _ _ ?hS49 (fun hHeld => ?_)
            case hS49 => exact (rr_of i0)
            clear hK K
            (try simp only [Act.put, List.setIfInBounds_toArray, List.set_cons_zero, List.set_cons_succ])
            refine wpAnyH_ready (rs := [7]) (by kernel_rfl) (by simp) ?_
            refine AllReadyH.cons (o := _) rfl (fun K hK => ?_) ?_
            ·
              rw [if_pos (by rfl)]
              (first | (refine wp_append_own _ _ _ 30 (by rfl) (w.heap.size + 1) 22 i0s (.agg #[.int .i64 0, .int .i64 0, .int .i64 0, .int .i64 0]) 4 32 Try.underlying30 hi0 hz0 hz1 hz2 rfl (by decide) _ _ _ (by rfl) own ⟨C1, 0, none⟩ 1 1 (c4 b) (by rfl) rfl (rs_box jc) (c4_ints b) (by unfold maxLen; omega) (by omega) zi0 ?_))
              intro v2 w2 hown' hgrow _
              change K (Act.put _ (some 29) _) _
              have hB' := hB.grown hgrow hB.size (fun q hq => Nat.le_of_succ_le (own.lt q hq).1)
              have iL' := iL.grown hgrow (own_at_ne own (Nat.lt_succ_of_lt hgl))
              have i0' := i0.grown hgrow (own_at_ne own (Nat.lt_succ_self _))
              clear jc
              clear own hgrow; have own := hown'; clear hown'; clear hB; have hB := hB'; clear hB'; clear iL ziL; have iL := iL'; clear iL'; have ziL := iL.2.2; clear i0 zi0; have i0 := i0'; clear i0'; have zi0 := i0.2.2
              generalize hWW : w2 = wx at *; clear hWW
              refine hK.out _ _ ?hS50 (fun hHeld => ?_)
              case hS50 => exact (rr_of i0)
              clear hK K
              (try simp only [Act.put, List.setIfInBounds_toArray, List.set_cons_zero, List.set_cons_succ])
              refine wpAnyH_ready (rs := [11]) (by kernel_rfl) (by simp) ?_
              refine AllReadyH.cons (o := _) rfl (fun K hK => ?_) ?_
              ·
                rw [if_pos (by rfl)]
                (first | (refine wp_append_own _ _ _ 30 (by rfl) (w.heap.size + 1) 22 i0s (.agg #[.int .i64 0, .int .i64 0, .int .i64 0, .int .i64 0]) 4 32 Try.underlying30 hi0 hz0 hz1 hz2 rfl (by decide) _ _ _ (by rfl) own ⟨g, 0, none⟩ 0 _ [] (by rfl) (by simp) (fun j u h => by cases h) (fun u h => by cases h) (by unfold maxLen; omega) (by omega) zi0 ?_) | (refine wp_append_own _ _ _ 30 (by rfl) (w.heap.size + 1) 22 i0s (.agg #[.int .i64 0, .int .i64 0, .int .i64 0, .int .i64 0]) 4 32 Try.underlying30 hi0 hz0 hz1 hz2 rfl (by decide) _ _ _ (by rfl) own ⟨g, 0, none⟩ (i - i) _ [] (by rfl) (by simp) (fun j u h => by cases h) (fun u h => by cases h) (by unfold maxLen; omega) (by omega) zi0 ?_) | (refine wp_append_own _ _ _ 30 (by rfl) (w.heap.size + 1) 22 i0s (.agg #[.int .i64 0, .int .i64 0, .int .i64 0, .int .i64 0]) 4 32 Try.underlying30 hi0 hz0 hz1 hz2 rfl (by decide) _ _ _ (by rfl) own ⟨g, i * 4, none⟩ 0 _ [] (by rfl) (by simp) (fun j u h => by cases h) (fun u h => by cases h) (by unfold maxLen; omega) (by omega) zi0 ?_) | (refine wp_append_own _ _ _ 30 (by rfl) (w.heap.size + 1) 22 i0s (.agg #[.int .i64 0, .int .i64 0, .int .i64 0, .int .i64 0]) 4 32 Try.underlying30 hi0 hz0 hz1 hz2 rfl (by decide) _ _ _ (by rfl) own ⟨g, i * 4, none⟩ (i - i) _ [] (by rfl) (by simp) (fun j u h => by cases h) (fun u h => by cases h) (by unfold maxLen; omega) (by omega) zi0 ?_))
                intro v3 w2 hown' hgrow _
                change K (Act.put _ (some 33) _) _
                have hB' := hB.grown hgrow hB.size (fun q hq => Nat.le_of_succ_le (own.lt q hq).1)
                have iL' := iL.grown hgrow (own_at_ne own (Nat.lt_succ_of_lt hgl))
                have i0' := i0.grown hgrow (own_at_ne own (Nat.lt_succ_self _))
                clear own hgrow; have own := hown'; clear hown'; clear hB; have hB := hB'; clear hB'; clear iL ziL; have iL := iL'; clear iL'; have ziL := iL.2.2; clear i0 zi0; have i0 := i0'; clear i0'; have zi0 := i0.2.2
                generalize hWW : w2 = wx at *; clear hWW
                refine hK.out _ _ ?hS51 (fun hHeld => ?_)
                case hS51 => exact (rr_of i0)
                clear hK K
                (try simp only [Act.put, List.setIfInBounds_toArray, List.set_cons_zero, List.set_cons_succ])
                refine take_d (i := 12) (some 4) (v := ?_) rfl rfl (by kernel_rfl) (by kernel_rfl) (by kernel_rfl) (fun _ _ _ h => h) (Or.inl ⟨by rfl, ?_⟩) (by assumption) ?_
                rotate_left; (intro w hSw; clear hSw; go_simp; try with_reducible rfl)
                all_goals (try simp only [Act.put, List.setIfInBounds_toArray, List.set_cons_zero, List.set_cons_succ])
                refine wpAnyH_done (by kernel_rfl) ?_ _
                (try refine NoPanic.normal ?_)
                have own := ad_own0 (l := l) (b := b) own HM.out HK.out hnl
                obtain ⟨A, cp, rfl, hcp, hS⟩ := rs_sl own
                obtain ⟨g', rfl, hge, hH⟩ := hS HP0.out
                clear own hS
                go_wp2
                go_ret
                exact ⟨g', cp, rfl, hcp, hH, .inr (Nat.le_of_succ_le hge), hB⟩
              exact AllReadyH.nil
            exact AllReadyH.nil
          exact AllReadyH.nil
        exact AllReadyH.nil
      exact AllReadyH.nil

end Go.Proofs.Ytmbmknpjmkgjlaa
