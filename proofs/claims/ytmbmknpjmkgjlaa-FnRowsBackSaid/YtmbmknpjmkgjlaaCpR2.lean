/-
  Contract: slices.Compact at rows: the walk.
-/
import Derived.Test.YtmbmknpjmkgjlaaCpR
namespace Go.Proofs.Ytmbmknpjmkgjlaa
open Go.RowKit

theorem store_RwMid {ops : Array Oper} {rest : List Oper} {op : Oper} {a : Act} {w : World} {Q : Exit → Act → World → Prop} (hgd : op.guard = none) (x y : Operand) (ho : op.op = .store 22 x y)
    (b o : Nat) (f : Nat → Int) (hx : a.eval x = .pointer (some ⟨b, o, none⟩)) (hy : a.eval y = .agg #[.int .i64 (f 0), .int .i64 (f 1), .int .i64 (f 2), .int .i64 (f 3)]) {n : Nat} {c : Nat → Value} (hH : Has w b n c) (hle : o + 4 ≤ n)
    (h : ∀ w2, Only b w w2 → Has w2 b n (fun j => if o ≤ j ∧ j < o + 4 then .int .i64 (f (j - o)) else c j) → wpList Try.prog ops Q rest (a.put op.dst undef) w2) : wpList Try.prog ops Q (op :: rest) a w :=
  wpList_store_mid hgd 22 x y ho b o #[.int .i64 (f 0), .int .i64 (f 1), .int .i64 (f 2), .int .i64 (f 3)] hx hy (hH.there 4 hle) info_Rw (by simp [Value.oneCell'])
    (h _ (only_setCells _ _ _ _) (by
      refine (hH.sets (c4 f) hle).congr fun j _ => ?_
      have e : (c4 f).length = 4 := rfl
      rw [e]
      by_cases hj : o ≤ j ∧ j < o + 4
      · rw [if_pos hj, if_pos hj]
        have h16 : j - o < 4 := by omega
        generalize j - o = r at *
        rcases p4 h16 with rfl | rfl | rfl | rfl <;> rfl
      · rw [if_neg hj, if_neg hj]))
theorem load_ROf {ops : Array Oper} {rest : List Oper} {op : Oper} {a : Act} {w : World} {Q : Exit → Act → World → Prop} (hgd : op.guard = none) (x : Operand) (ho : op.op = .load 22 x)
    (b o : Nat) (f : Nat → Int) (hx : a.eval x = .pointer (some ⟨b, o, none⟩)) (hH : ROf b o f w)
    (h : wpList Try.prog ops Q rest (a.put op.dst (.agg #[.int .i64 (f 0), .int .i64 (f 1), .int .i64 (f 2), .int .i64 (f 3)])) w) : wpList Try.prog ops Q (op :: rest) a w :=
  wpList_load_mid hgd 22 x ho b o hx _ _ hH.r Try.underlying22 rfl (by kernel_rfl) h
theorem Has.less {w : World} {B n m : Nat} {c : Nat → Value} (h : Has w B n c) (hm : m ≤ n) : Has w B m c := ⟨fun o ho => h.1 o (by omega), h.2⟩
theorem cmM_lo {l : List (Nat → Int)} {q p : Nat} (h : p < kpN l q) : atR (cmM l q) p = atR (cpA eqR (l.take q)) p := by
  unfold kpN at h
  unfold atR cmM
  rw [List.getD_eq_getElem?_getD, List.getD_eq_getElem?_getD, List.getElem?_append_left h]
theorem take_next {l : List (Nat → Int)} {j : Nat} (h : j + 1 < l.length) : l.take (j + 2) = l.take (j + 1) ++ [atR l (j + 1)] := by
  rw [List.take_add_one, atL_get h]; rfl

set_option maxHeartbeats 16000000 in
set_option maxRecDepth 100000 in
theorem compactR_any (l : List (Nat → Int)) (hl : l.length ≤ 65536) (g cap : Nat) (hcap : l.length ≤ cap) (w : World) (hH : Has w g (l.length * 4) (rsC l)) :
    Calls Try.prog 75 #[.slice (some ⟨g, 0, none⟩) l.length cap] w fun e w' => e = .returned (.slice (some ⟨g, 0, none⟩) (cpA eqR l).length cap) ∧ Has w' g ((cpA eqR l).length * 4) (rsC (cpA eqR l)) ∧ Only g w w' := by
  have HH := hide hH
  clear hH
  obtain ⟨n, hn⟩ : ∃ n, n = l.length := ⟨_, rfl⟩
  have HN := hide hn
  rw [← hn] at hl hcap HH ⊢
  clear hn
  by_cases h2 : n < 2
  · have e : Hid (cpA eqR l = l) := hide (by
      have h := HN.out
      match hl : l with
      | [] => rfl
      | [a] => rfl
      | a :: b :: r => simp at h; omega)
    have h2i : (n : Int) < 2 := by omega
    clear h2
    go_enter Try.func75, Try.ntmps75
    go_wp2
    go_ret
    exact ⟨by rw [e.out, ← HN.out]; rfl, by rw [e.out, ← HN.out]; exact HH.out, only_refl _ _⟩
  · have h2i : ¬ (n : Int) < 2 := by omega
    go_enter Try.func75, Try.ntmps75
    go_wp2_with fail
    go_loopw [3] (fun v wr => ∃ j : Nat, j < n ∧ v = .int .i64 ((j : Int) + 1) ∧ Hid (cpA eqR (l.take (j + 1)) = l.take (j + 1)) ∧ Only g w wr ∧ Has wr g (n * 4) (rsC l)) (fun i _ => n - (intOf i).toNat)
    case atStart => exact ⟨0, by omega, rfl, hide (by
      have h := HN.out
      match hl : l with
      | [] => simp at h; omega
      | a :: r => rfl), only_refl _ _, HH.out⟩
    case round =>
      obtain ⟨j, hj, rfl, HC, hO, iL⟩ := hrel
      have a0 : (0 : Int) ≤ j := by omega
      have ziL := iL.2.2
      by_cases hlt : j + 1 < n
      · have a1 : (j : Int) + 1 < n := by omega
        have a2 : (0 : Int) ≤ (j : Int) + 1 := by omega
        have a3 : (j : Int) < n := by omega
        have hE := eql_R (atR l (j + 1)) (atR l j)
        have s1 : IntKind.i64.wrap ((j : Int) + 1 - 1) = (j : Int) := by rw [Int.add_sub_cancel]; exact IntWalk.i64_in _ (by omega)
        have s2 : IntKind.i64.wrap (j : Int) = (j : Int) := IntWalk.i64_in _ (by omega)
        have HLT := hide (show j + 1 < l.length by rw [← HN.out]; exact hlt)
        cases he : eqR (atR l (j + 1)) (atR l j)
        · rw [he] at hE
          have HC2 := hide (show cpA eqR (l.take (j + 2)) = l.take (j + 2) by rw [cp_no HLT.out he, HC.out, take_next HLT.out])
          clear he
          go_wp2_with fail
          have hB : Below wr.heap.size wr wr := Below.refl _ _
          have hO2 : Only g w wr.drew := hO.drew
          refine wp_region_noPanic ?_
          refine wp_region_held_drew (S := (fun w' => ROf g ((j + 1) * 4) (atR l (j + 1)) w' ∧ ROf g (j * 4) (atR l j) w')) (by kernel_rfl) ?hS01 (fun hHeld => ?_)
          case hS01 => exact ⟨rof_of (Has.drew iL) (by omega) rfl rfl, rof_of (Has.drew iL) (by omega) rfl rfl⟩
          have hB' : Below wr.heap.size wr (World.drew _) := Below.drew hB
          have iL' := Has.drew iL
          (try clear ciL); (try clear fiL)
          generalize hWW : World.drew _ = wx at *; clear hWW
          clear hB; have hB := hB'; clear hB'; clear iL ziL; have iL := iL'; clear iL'; have ziL := iL.2.2
          refine take_d (i := 0) (some 16) (v := ?_) rfl rfl (by kernel_rfl) (by kernel_rfl) (by kernel_rfl) (fun _ _ _ h => h) (Or.inl ⟨by rfl, ?_⟩) (by assumption) ?_
          rotate_left; (intro w hSw; clear hSw; go_simp; try with_reducible rfl)
          all_goals (try simp only [Act.put, List.setIfInBounds_toArray, List.set_cons_zero, List.set_cons_succ])
          refine take_d (i := 1) (some 17) (v := ?_) rfl rfl (by kernel_rfl) (by kernel_rfl) (by kernel_rfl) (fun _ _ _ h => h) (Or.inl ⟨by rfl, ?_⟩) (by assumption) ?_
          rotate_left; (intro w hSw; clear hSw; go_simp; try with_reducible rfl)
          all_goals (try simp only [Act.put, List.setIfInBounds_toArray, List.set_cons_zero, List.set_cons_succ])
          refine take_d (i := 2) (some 18) (v := ?_) rfl rfl (by kernel_rfl) (by kernel_rfl) (by kernel_rfl) (fun _ _ _ h => h) (Or.inl ⟨by rfl, ?_⟩) (by assumption) ?_
          rotate_left; (intro w hSw; clear hSw; go_simp; try with_reducible rfl)
          all_goals (try simp only [Act.put, List.setIfInBounds_toArray, List.set_cons_zero, List.set_cons_succ])
          refine take_d (i := 3) (some 19) (oi := _) (v := _) rfl rfl (by kernel_rfl) (by kernel_rfl) (by kernel_rfl) (fun _ _ _ h => h) (yieldsIf_load_mid (by rfl) _ _ rfl _ _ rfl _ _ (fun w h => h.1.r) Try.underlying22 rfl (by kernel_rfl)) (by assumption) ?_
          all_goals (try simp only [Act.put, List.setIfInBounds_toArray, List.set_cons_zero, List.set_cons_succ])
          refine take_d (i := 4) (some 20) (v := ?_) rfl rfl (by kernel_rfl) (by kernel_rfl) (by kernel_rfl) (fun _ _ _ h => h) (Or.inl ⟨by rfl, ?_⟩) (by assumption) ?_
          rotate_left; (intro w hSw; clear hSw; go_simp; try with_reducible rfl)
          all_goals (try simp only [Act.put, List.setIfInBounds_toArray, List.set_cons_zero, List.set_cons_succ])
          refine take_d (i := 5) (some 21) (v := ?_) rfl rfl (by kernel_rfl) (by kernel_rfl) (by kernel_rfl) (fun _ _ _ h => h) (Or.inl ⟨by rfl, ?_⟩) (by assumption) ?_
          rotate_left; (intro w hSw; clear hSw; go_simp; try with_reducible rfl)
          all_goals (try simp only [Act.put, List.setIfInBounds_toArray, List.set_cons_zero, List.set_cons_succ])
          refine take_d (i := 6) (some 22) (v := ?_) rfl rfl (by kernel_rfl) (by kernel_rfl) (by kernel_rfl) (fun _ _ _ h => h) (Or.inl ⟨by rfl, ?_⟩) (by assumption) ?_
          rotate_left; (intro w hSw; clear hSw; go_simp; try with_reducible rfl)
          all_goals (try simp only [Act.put, List.setIfInBounds_toArray, List.set_cons_zero, List.set_cons_succ])
          refine take_d (i := 7) (some 23) (v := ?_) rfl rfl (by kernel_rfl) (by kernel_rfl) (by kernel_rfl) (fun _ _ _ h => h) (Or.inl ⟨by rfl, ?_⟩) (by assumption) ?_
          rotate_left; (intro w hSw; clear hSw; go_simp; try with_reducible rfl)
          all_goals (try simp only [Act.put, List.setIfInBounds_toArray, List.set_cons_zero, List.set_cons_succ])
          refine take_d (i := 8) (some 24) (oi := _) (v := _) rfl rfl (by kernel_rfl) (by kernel_rfl) (by kernel_rfl) (fun _ _ _ h => h) (yieldsIf_load_mid (by rfl) _ _ rfl _ _ rfl _ _ (fun w h => h.2.r) Try.underlying22 rfl (by kernel_rfl)) (by assumption) ?_
          all_goals (try simp only [Act.put, List.setIfInBounds_toArray, List.set_cons_zero, List.set_cons_succ])
          refine take_d (i := 9) (some 25) (v := ?_) rfl rfl (by kernel_rfl) (by kernel_rfl) (by kernel_rfl) (fun _ _ _ h => h) (Or.inl ⟨by rfl, ?_⟩) (by assumption) ?_
          rotate_left; (intro w hSw; clear hSw; go_simp; try with_reducible rfl)
          all_goals (try simp only [Act.put, List.setIfInBounds_toArray, List.set_cons_zero, List.set_cons_succ])
          refine wpAnyH_done (by kernel_rfl) ?_ _
          (try refine NoPanic.normal ?_)
          go_wp2
          go_roundw
          case rel => exact ⟨j + 1, hlt, by go_num, HC2, hO2, iL⟩
          case measure => (simp [intOf]; omega)
        · rw [he] at hE
          have hci : ¬ cap = j + 1 := by omega
          have HK0 := hide (kp_yes HLT.out he)
          have hk1 : kpN l (j + 1) = j + 1 := by
            unfold kpN
            rw [HC.out, List.length_take, ← HN.out]; omega
          have hm1 : cmM l (j + 1) = l := by
            unfold cmM
            rw [HC.out, List.length_take, ← HN.out, Nat.min_eq_left (by omega), List.take_append_drop]
          have HK1 := hide hk1
          have HM1 := hide hm1
          have a5 : (j : Int) + 1 ≤ cap := by omega
          clear he hk1 hm1
          go_wp2_with fail
          have hB : Below wr.heap.size wr wr := Below.refl _ _
          have hO2 : Only g w wr.drew := hO.drew
          refine wp_region_noPanic ?_
          refine wp_region_held_drew (S := (fun w' => ROf g ((j + 1) * 4) (atR l (j + 1)) w' ∧ ROf g (j * 4) (atR l j) w')) (by kernel_rfl) ?hS04 (fun hHeld => ?_)
          case hS04 => exact ⟨rof_of (Has.drew iL) (by omega) rfl rfl, rof_of (Has.drew iL) (by omega) rfl rfl⟩
          have hB' : Below wr.heap.size wr (World.drew _) := Below.drew hB
          have iL' := Has.drew iL
          (try clear ciL); (try clear fiL)
          generalize hWW : World.drew _ = wx at *; clear hWW
          clear hB; have hB := hB'; clear hB'; clear iL ziL; have iL := iL'; clear iL'; have ziL := iL.2.2
          refine take_d (i := 0) (some 16) (v := ?_) rfl rfl (by kernel_rfl) (by kernel_rfl) (by kernel_rfl) (fun _ _ _ h => h) (Or.inl ⟨by rfl, ?_⟩) (by assumption) ?_
          rotate_left; (intro w hSw; clear hSw; go_simp; try with_reducible rfl)
          all_goals (try simp only [Act.put, List.setIfInBounds_toArray, List.set_cons_zero, List.set_cons_succ])
          refine take_d (i := 1) (some 17) (v := ?_) rfl rfl (by kernel_rfl) (by kernel_rfl) (by kernel_rfl) (fun _ _ _ h => h) (Or.inl ⟨by rfl, ?_⟩) (by assumption) ?_
          rotate_left; (intro w hSw; clear hSw; go_simp; try with_reducible rfl)
          all_goals (try simp only [Act.put, List.setIfInBounds_toArray, List.set_cons_zero, List.set_cons_succ])
          refine take_d (i := 2) (some 18) (v := ?_) rfl rfl (by kernel_rfl) (by kernel_rfl) (by kernel_rfl) (fun _ _ _ h => h) (Or.inl ⟨by rfl, ?_⟩) (by assumption) ?_
          rotate_left; (intro w hSw; clear hSw; go_simp; try with_reducible rfl)
          all_goals (try simp only [Act.put, List.setIfInBounds_toArray, List.set_cons_zero, List.set_cons_succ])
          refine take_d (i := 3) (some 19) (oi := _) (v := _) rfl rfl (by kernel_rfl) (by kernel_rfl) (by kernel_rfl) (fun _ _ _ h => h) (yieldsIf_load_mid (by rfl) _ _ rfl _ _ rfl _ _ (fun w h => h.1.r) Try.underlying22 rfl (by kernel_rfl)) (by assumption) ?_
          all_goals (try simp only [Act.put, List.setIfInBounds_toArray, List.set_cons_zero, List.set_cons_succ])
          refine take_d (i := 4) (some 20) (v := ?_) rfl rfl (by kernel_rfl) (by kernel_rfl) (by kernel_rfl) (fun _ _ _ h => h) (Or.inl ⟨by rfl, ?_⟩) (by assumption) ?_
          rotate_left; (intro w hSw; clear hSw; go_simp; try with_reducible rfl)
          all_goals (try simp only [Act.put, List.setIfInBounds_toArray, List.set_cons_zero, List.set_cons_succ])
          refine take_d (i := 5) (some 21) (v := ?_) rfl rfl (by kernel_rfl) (by kernel_rfl) (by kernel_rfl) (fun _ _ _ h => h) (Or.inl ⟨by rfl, ?_⟩) (by assumption) ?_
          rotate_left; (intro w hSw; clear hSw; go_simp; try with_reducible rfl)
          all_goals (try simp only [Act.put, List.setIfInBounds_toArray, List.set_cons_zero, List.set_cons_succ])
          refine take_d (i := 6) (some 22) (v := ?_) rfl rfl (by kernel_rfl) (by kernel_rfl) (by kernel_rfl) (fun _ _ _ h => h) (Or.inl ⟨by rfl, ?_⟩) (by assumption) ?_
          rotate_left; (intro w hSw; clear hSw; go_simp; try with_reducible rfl)
          all_goals (try simp only [Act.put, List.setIfInBounds_toArray, List.set_cons_zero, List.set_cons_succ])
          refine take_d (i := 7) (some 23) (v := ?_) rfl rfl (by kernel_rfl) (by kernel_rfl) (by kernel_rfl) (fun _ _ _ h => h) (Or.inl ⟨by rfl, ?_⟩) (by assumption) ?_
          rotate_left; (intro w hSw; clear hSw; go_simp; try with_reducible rfl)
          all_goals (try simp only [Act.put, List.setIfInBounds_toArray, List.set_cons_zero, List.set_cons_succ])
          refine take_d (i := 8) (some 24) (oi := _) (v := _) rfl rfl (by kernel_rfl) (by kernel_rfl) (by kernel_rfl) (fun _ _ _ h => h) (yieldsIf_load_mid (by rfl) _ _ rfl _ _ rfl _ _ (fun w h => h.2.r) Try.underlying22 rfl (by kernel_rfl)) (by assumption) ?_
          all_goals (try simp only [Act.put, List.setIfInBounds_toArray, List.set_cons_zero, List.set_cons_succ])
          refine take_d (i := 9) (some 25) (v := ?_) rfl rfl (by kernel_rfl) (by kernel_rfl) (by kernel_rfl) (fun _ _ _ h => h) (Or.inl ⟨by rfl, ?_⟩) (by assumption) ?_
          rotate_left; (intro w hSw; clear hSw; go_simp; try with_reducible rfl)
          all_goals (try simp only [Act.put, List.setIfInBounds_toArray, List.set_cons_zero, List.set_cons_succ])
          refine wpAnyH_done (by kernel_rfl) ?_ _
          (try refine NoPanic.normal ?_)
          have i1 : Has wx g (n * 4) (rsC (cmM l (j + 1 + 1 + 0))) := by rw [HK0.out.2, HM1.out]; exact iL
          have hkk : kpN l (j + 1 + 1 + 0) = j + 1 := HK0.out.1.trans HK1.out
          clear iL hB hE
          go_upto_region 9 with (fail)
          go_loopw [3, 5] (fun v3 v5 wq => ∃ p : Nat, j + 1 + 1 + p ≤ n ∧ v5 = .int .i64 ((p : Int) + 1) ∧ v3 = .int .i64 (kpN l (j + 1 + 1 + p) : Int) ∧ kpN l (j + 1 + 1 + p) ≤ j + 1 + p ∧ Only g w wq ∧ Has wq g (n * 4) (rsC (cmM l (j + 1 + 1 + p)))) (fun _ v5 _ => n - (intOf v5).toNat)
          case atStart => exact ⟨0, by omega, rfl, by rw [hkk]; go_num, by rw [hkk]; omega, hO2, i1⟩
          case round =>
            clear i1 hO2 hO hkk HK0 HM1 HK1
            obtain ⟨p, hq, rfl, rfl, hkp, hO, iL⟩ := hrel
            obtain ⟨a, ha⟩ : ∃ a, a = j + 1 + p := ⟨_, rfl⟩
            have hqa : j + 1 + 1 + p = a + 1 := by omega
            rw [hqa] at hq hkp iL ⊢
            rw [← ha] at hkp
            generalize hK : kpN l (a + 1) = K at *
            have HK := hide hK
            have HA := hide ha
            have b0 : (0 : Int) ≤ p := by omega
            have b1 : (0 : Int) ≤ (p : Int) + 1 := by omega
            have b2 : (0 : Int) ≤ K := by omega
            have ziL := iL.2.2
            have hKn : K < n := by omega
            have b3 : (K : Int) < n := by omega
            have b4 : (K : Int) ≤ cap := by omega
            have hL1 := (kpN_le l (a + 1)).2
            clear hK ha
            by_cases hlt2 : a + 1 < n
            · have HA1 := hide (cmM_hi (l := l) (q := a + 1) (p := a + 1) (by rw [HK.out]; omega))
              have HA0 := hide (cmM_hi (l := l) (q := a + 1) (p := a) (by rw [HK.out]; omega))
              have hla : a + 1 < l.length := by rw [← HN.out]; exact hlt2
              have HLA := hide hla
              have r1 : ((n - (j + 1) : Nat) : Int) = (n : Int) - (j + 1) := by omega
              have b5 : (p : Int) + 1 < ((n - (j + 1) : Nat) : Int) := by have := HA.out; omega
              have b6 : (p : Int) < ((n - (j + 1) : Nat) : Int) := by omega
              have t1 : IntKind.i64.wrap ((p : Int) + 1 - 1) = (p : Int) := by rw [Int.add_sub_cancel]; exact IntWalk.i64_in _ (by omega)
              have t2 : IntKind.i64.wrap (p : Int) = (p : Int) := IntWalk.i64_in _ (by omega)
              have hE2 := neq_R (atR l (a + 1)) (atR l a)
              have o1 : (j + 1) * 4 + (p + 1) * 4 = (a + 1) * 4 := by have := HA.out; omega
              have o2 : (j + 1) * 4 + p * 4 = a * 4 := by have := HA.out; omega
              have O1 := hide o1
              have O2 := hide o2
              clear o1 o2 r1 hla
              cases he2 : eqR (atR l (a + 1)) (atR l a)
              · rw [he2] at hE2
                have HKN := hide (kp_no HLA.out he2)
                have HST := hide (fun o => cm_store (o := o) HLA.out he2)
                clear he2
                have hB : Below wr.heap.size wr wr := Below.refl _ _
                have hO2 : Only g w wr.drew := hO.drew
                go_wp2_with fail
                refine wp_region_noPanic ?_
                refine wp_region_held_drew (S := (fun w' => ROf g ((j + 1) * 4 + (p + 1) * 4) (atR l (a + 1)) w' ∧ ROf g ((j + 1) * 4 + p * 4) (atR l a) w')) (by kernel_rfl) ?hS02 (fun hHeld => ?_)
                case hS02 => exact ⟨rof_of (Has.drew iL) (by omega) O1.out HA1.out, rof_of (Has.drew iL) (by omega) O2.out HA0.out⟩
                have hB' : Below wr.heap.size wr (World.drew _) := Below.drew hB
                have iL' := Has.drew iL
                (try clear ciL); (try clear fiL)
                generalize hWW : World.drew _ = wx at *; clear hWW
                clear hB; have hB := hB'; clear hB'; clear iL ziL; have iL := iL'; clear iL'; have ziL := iL.2.2
                refine take_d (i := 0) (some 35) (v := ?_) rfl rfl (by kernel_rfl) (by kernel_rfl) (by kernel_rfl) (fun _ _ _ h => h) (Or.inl ⟨by rfl, ?_⟩) (by assumption) ?_
                rotate_left; (intro w hSw; clear hSw; go_simp; try with_reducible rfl)
                all_goals (try simp only [Act.put, List.setIfInBounds_toArray, List.set_cons_zero, List.set_cons_succ])
                refine take_d (i := 1) (some 36) (v := ?_) rfl rfl (by kernel_rfl) (by kernel_rfl) (by kernel_rfl) (fun _ _ _ h => h) (Or.inl ⟨by rfl, ?_⟩) (by assumption) ?_
                rotate_left; (intro w hSw; clear hSw; go_simp; try with_reducible rfl)
                all_goals (try simp only [Act.put, List.setIfInBounds_toArray, List.set_cons_zero, List.set_cons_succ])
                refine take_d (i := 2) (some 37) (v := ?_) rfl rfl (by kernel_rfl) (by kernel_rfl) (by kernel_rfl) (fun _ _ _ h => h) (Or.inl ⟨by rfl, ?_⟩) (by assumption) ?_
                rotate_left; (intro w hSw; clear hSw; go_simp; try with_reducible rfl)
                all_goals (try simp only [Act.put, List.setIfInBounds_toArray, List.set_cons_zero, List.set_cons_succ])
                refine take_d (i := 3) (some 38) (oi := _) (v := _) rfl rfl (by kernel_rfl) (by kernel_rfl) (by kernel_rfl) (fun _ _ _ h => h) (yieldsIf_load_mid (by rfl) _ _ rfl _ _ rfl _ _ (fun w h => h.1.r) Try.underlying22 rfl (by kernel_rfl)) (by assumption) ?_
                all_goals (try simp only [Act.put, List.setIfInBounds_toArray, List.set_cons_zero, List.set_cons_succ])
                refine take_d (i := 4) (some 39) (v := ?_) rfl rfl (by kernel_rfl) (by kernel_rfl) (by kernel_rfl) (fun _ _ _ h => h) (Or.inl ⟨by rfl, ?_⟩) (by assumption) ?_
                rotate_left; (intro w hSw; clear hSw; go_simp; try with_reducible rfl)
                all_goals (try simp only [Act.put, List.setIfInBounds_toArray, List.set_cons_zero, List.set_cons_succ])
                refine take_d (i := 5) (some 40) (v := ?_) rfl rfl (by kernel_rfl) (by kernel_rfl) (by kernel_rfl) (fun _ _ _ h => h) (Or.inl ⟨by rfl, ?_⟩) (by assumption) ?_
                rotate_left; (intro w hSw; clear hSw; go_simp; try with_reducible rfl)
                all_goals (try simp only [Act.put, List.setIfInBounds_toArray, List.set_cons_zero, List.set_cons_succ])
                refine take_d (i := 6) (some 41) (v := ?_) rfl rfl (by kernel_rfl) (by kernel_rfl) (by kernel_rfl) (fun _ _ _ h => h) (Or.inl ⟨by rfl, ?_⟩) (by assumption) ?_
                rotate_left; (intro w hSw; clear hSw; go_simp; try with_reducible rfl)
                all_goals (try simp only [Act.put, List.setIfInBounds_toArray, List.set_cons_zero, List.set_cons_succ])
                refine take_d (i := 7) (some 42) (v := ?_) rfl rfl (by kernel_rfl) (by kernel_rfl) (by kernel_rfl) (fun _ _ _ h => h) (Or.inl ⟨by rfl, ?_⟩) (by assumption) ?_
                rotate_left; (intro w hSw; clear hSw; go_simp; try with_reducible rfl)
                all_goals (try simp only [Act.put, List.setIfInBounds_toArray, List.set_cons_zero, List.set_cons_succ])
                refine take_d (i := 8) (some 43) (oi := _) (v := _) rfl rfl (by kernel_rfl) (by kernel_rfl) (by kernel_rfl) (fun _ _ _ h => h) (yieldsIf_load_mid (by rfl) _ _ rfl _ _ rfl _ _ (fun w h => h.2.r) Try.underlying22 rfl (by kernel_rfl)) (by assumption) ?_
                all_goals (try simp only [Act.put, List.setIfInBounds_toArray, List.set_cons_zero, List.set_cons_succ])
                refine take_d (i := 9) (some 44) (v := ?_) rfl rfl (by kernel_rfl) (by kernel_rfl) (by kernel_rfl) (fun _ _ _ h => h) (Or.inl ⟨by rfl, ?_⟩) (by assumption) ?_
                rotate_left; (intro w hSw; clear hSw; go_simp; try with_reducible rfl)
                all_goals (try simp only [Act.put, List.setIfInBounds_toArray, List.set_cons_zero, List.set_cons_succ])
                refine wpAnyH_done (by kernel_rfl) ?_ _
                (try refine NoPanic.normal ?_)
                have e3 : j + 1 + 1 + (p + 1) = a + 1 + 1 := by have := HA.out; omega
                have E3 := hide e3
                have hr1 : ROf g ((j + 1) * 4 + (p + 1) * 4) (atR l (a + 1)) wx := rof_of iL (by omega) O1.out HA1.out
                clear e3
                go_wp2_with (first | (refine load_ROf rfl _ rfl _ _ _ rfl hr1 ?_) | (refine store_RwMid rfl _ _ rfl g (K * 4) (atR l (a + 1)) rfl rfl iL (by omega) ?_; intro w3 ho3 hn3; have hO3 := hO2.trans ho3))
                go_roundw
                case rel => exact ⟨p + 1, by rw [E3.out]; exact hlt2, by go_num, by rw [E3.out, HKN.out, HK.out]; go_num, by rw [E3.out, HKN.out, HK.out]; have := HA.out; omega, hO3, by rw [E3.out]; exact hn3.congr (fun o ho => by rw [← HST.out o, HK.out])⟩
                case measure => (simp [intOf]; omega)
              · rw [he2] at hE2
                have HKY := hide (kp_yes HLA.out he2)
                clear he2
                have hB : Below wr.heap.size wr wr := Below.refl _ _
                have hO2 : Only g w wr.drew := hO.drew
                go_wp2_with fail
                refine wp_region_noPanic ?_
                refine wp_region_held_drew (S := (fun w' => ROf g ((j + 1) * 4 + (p + 1) * 4) (atR l (a + 1)) w' ∧ ROf g ((j + 1) * 4 + p * 4) (atR l a) w')) (by kernel_rfl) ?hS03 (fun hHeld => ?_)
                case hS03 => exact ⟨rof_of (Has.drew iL) (by omega) O1.out HA1.out, rof_of (Has.drew iL) (by omega) O2.out HA0.out⟩
                have hB' : Below wr.heap.size wr (World.drew _) := Below.drew hB
                have iL' := Has.drew iL
                (try clear ciL); (try clear fiL)
                generalize hWW : World.drew _ = wx at *; clear hWW
                clear hB; have hB := hB'; clear hB'; clear iL ziL; have iL := iL'; clear iL'; have ziL := iL.2.2
                refine take_d (i := 0) (some 35) (v := ?_) rfl rfl (by kernel_rfl) (by kernel_rfl) (by kernel_rfl) (fun _ _ _ h => h) (Or.inl ⟨by rfl, ?_⟩) (by assumption) ?_
                rotate_left; (intro w hSw; clear hSw; go_simp; try with_reducible rfl)
                all_goals (try simp only [Act.put, List.setIfInBounds_toArray, List.set_cons_zero, List.set_cons_succ])
                refine take_d (i := 1) (some 36) (v := ?_) rfl rfl (by kernel_rfl) (by kernel_rfl) (by kernel_rfl) (fun _ _ _ h => h) (Or.inl ⟨by rfl, ?_⟩) (by assumption) ?_
                rotate_left; (intro w hSw; clear hSw; go_simp; try with_reducible rfl)
                all_goals (try simp only [Act.put, List.setIfInBounds_toArray, List.set_cons_zero, List.set_cons_succ])
                refine take_d (i := 2) (some 37) (v := ?_) rfl rfl (by kernel_rfl) (by kernel_rfl) (by kernel_rfl) (fun _ _ _ h => h) (Or.inl ⟨by rfl, ?_⟩) (by assumption) ?_
                rotate_left; (intro w hSw; clear hSw; go_simp; try with_reducible rfl)
                all_goals (try simp only [Act.put, List.setIfInBounds_toArray, List.set_cons_zero, List.set_cons_succ])
                refine take_d (i := 3) (some 38) (oi := _) (v := _) rfl rfl (by kernel_rfl) (by kernel_rfl) (by kernel_rfl) (fun _ _ _ h => h) (yieldsIf_load_mid (by rfl) _ _ rfl _ _ rfl _ _ (fun w h => h.1.r) Try.underlying22 rfl (by kernel_rfl)) (by assumption) ?_
                all_goals (try simp only [Act.put, List.setIfInBounds_toArray, List.set_cons_zero, List.set_cons_succ])
                refine take_d (i := 4) (some 39) (v := ?_) rfl rfl (by kernel_rfl) (by kernel_rfl) (by kernel_rfl) (fun _ _ _ h => h) (Or.inl ⟨by rfl, ?_⟩) (by assumption) ?_
                rotate_left; (intro w hSw; clear hSw; go_simp; try with_reducible rfl)
                all_goals (try simp only [Act.put, List.setIfInBounds_toArray, List.set_cons_zero, List.set_cons_succ])
                refine take_d (i := 5) (some 40) (v := ?_) rfl rfl (by kernel_rfl) (by kernel_rfl) (by kernel_rfl) (fun _ _ _ h => h) (Or.inl ⟨by rfl, ?_⟩) (by assumption) ?_
                rotate_left; (intro w hSw; clear hSw; go_simp; try with_reducible rfl)
                all_goals (try simp only [Act.put, List.setIfInBounds_toArray, List.set_cons_zero, List.set_cons_succ])
                refine take_d (i := 6) (some 41) (v := ?_) rfl rfl (by kernel_rfl) (by kernel_rfl) (by kernel_rfl) (fun _ _ _ h => h) (Or.inl ⟨by rfl, ?_⟩) (by assumption) ?_
                rotate_left; (intro w hSw; clear hSw; go_simp; try with_reducible rfl)
                all_goals (try simp only [Act.put, List.setIfInBounds_toArray, List.set_cons_zero, List.set_cons_succ])
                refine take_d (i := 7) (some 42) (v := ?_) rfl rfl (by kernel_rfl) (by kernel_rfl) (by kernel_rfl) (fun _ _ _ h => h) (Or.inl ⟨by rfl, ?_⟩) (by assumption) ?_
                rotate_left; (intro w hSw; clear hSw; go_simp; try with_reducible rfl)
                all_goals (try simp only [Act.put, List.setIfInBounds_toArray, List.set_cons_zero, List.set_cons_succ])
                refine take_d (i := 8) (some 43) (oi := _) (v := _) rfl rfl (by kernel_rfl) (by kernel_rfl) (by kernel_rfl) (fun _ _ _ h => h) (yieldsIf_load_mid (by rfl) _ _ rfl _ _ rfl _ _ (fun w h => h.2.r) Try.underlying22 rfl (by kernel_rfl)) (by assumption) ?_
                all_goals (try simp only [Act.put, List.setIfInBounds_toArray, List.set_cons_zero, List.set_cons_succ])
                refine take_d (i := 9) (some 44) (v := ?_) rfl rfl (by kernel_rfl) (by kernel_rfl) (by kernel_rfl) (fun _ _ _ h => h) (Or.inl ⟨by rfl, ?_⟩) (by assumption) ?_
                rotate_left; (intro w hSw; clear hSw; go_simp; try with_reducible rfl)
                all_goals (try simp only [Act.put, List.setIfInBounds_toArray, List.set_cons_zero, List.set_cons_succ])
                refine wpAnyH_done (by kernel_rfl) ?_ _
                (try refine NoPanic.normal ?_)
                have e3 : j + 1 + 1 + (p + 1) = a + 1 + 1 := by have := HA.out; omega
                have E3 := hide e3
                clear e3
                go_wp2
                go_roundw
                case rel => exact ⟨p + 1, by rw [E3.out]; exact hlt2, by go_num, by rw [E3.out, HKY.out.1, HK.out], by rw [E3.out, HKY.out.1, HK.out]; have := HA.out; omega, hO2, by rw [E3.out, HKY.out.2]; exact iL⟩
                case measure => (simp [intOf]; omega)
            · have hna : n = a + 1 := by omega
              have HT := hide (show l.take (a + 1) = l from List.take_of_length_le (by rw [← HN.out, hna]; exact Nat.le_refl _))
              have HKL : Hid (K = (cpA eqR l).length) := hide (by rw [← HK.out]; unfold kpN; rw [HT.out])
              have HLO := hide (fun o (ho : o < K * 4) => show rsC (cmM l (a + 1)) o = rsC (cpA eqR l) o by
                show Value.int .i64 (atR (cmM l (a + 1)) (o / 4) (o % 4)) = Value.int .i64 (atR (cpA eqR l) (o / 4) (o % 4))
                rw [cmM_lo (by rw [HK.out]; omega), HT.out])
              have hck : ¬ cap = K := by omega
              have r1 : ((n - (j + 1) : Nat) : Int) = (n : Int) - (j + 1) := by omega
              have b5 : ¬ (p : Int) + 1 < ((n - (j + 1) : Nat) : Int) := by have := HA.out; omega
              have b6 : ((n - (j + 1) : Nat) : Int) ≤ (p : Int) + 1 := by omega
              have hHN := hide hna
              clear hna r1
              go_wp2_with (refine clear_Bd rfl _ rfl g (K * 4) (n - K) (cap - K) rfl iL (by omega) (by omega) ?_; intro w3 ho3 hn3; have hO3 := hO.trans ho3)
              go_ret
              exact ⟨by rw [← HKL.out]; rfl, by rw [← HKL.out]; exact (Has.less hn3 (by omega)).congr (fun o ho => by rw [if_neg (by omega)]; exact HLO.out o ho), hO3⟩
      · obtain rfl : n = j + 1 := by omega
        have e : Hid (cpA eqR l = l) := hide (by
          have h := HC.out
          rw [List.take_of_length_le (Nat.le_of_eq HN.out.symm)] at h
          exact h)
        go_wp2
        go_ret
        exact ⟨by rw [e.out, ← HN.out]; rfl, by rw [e.out, ← HN.out]; exact iL, hO⟩

end Go.Proofs.Ytmbmknpjmkgjlaa
