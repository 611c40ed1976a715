/-
  Contract: the draw of a board that one of its forms is like, mostly.
-/
import Derived.Test.YtegdnfmhhigjfaaBdD
import Derived.IntWalk
import Derived.StillTailTactics
namespace Go.Proofs.Ytegdnfmhhigjfaa
open Go.RowKit

theorem store_A44F {ops : Array Oper} {rest : List Oper} {op : Oper} {a : Act} {w : World} {Q : Exit → Act → World → Prop} (hgd : op.guard = none) (x y : Operand) (ho : op.op = .store 25 x y)
    (b : Nat) (f : Nat → Int) (hx : a.eval x = .pointer (some ⟨b, 0, none⟩)) (hy : a.eval y = .agg #[.int .i64 (f 0), .int .i64 (f 1), .int .i64 (f 2), .int .i64 (f 3), .int .i64 (f 4), .int .i64 (f 5), .int .i64 (f 6), .int .i64 (f 7), .int .i64 (f 8), .int .i64 (f 9), .int .i64 (f 10), .int .i64 (f 11), .int .i64 (f 12), .int .i64 (f 13), .int .i64 (f 14), .int .i64 (f 15)]) {c : Nat → Value} (hH : Has w b 16 c)
    (h : ∀ w2, Only b w w2 → Has w2 b 16 (fun j => .int .i64 (f j)) → wpList Try.prog ops Q rest (a.put op.dst undef) w2) : wpList Try.prog ops Q (op :: rest) a w :=
  store_A44 hgd x y ho b 0 _ _ _ _ _ _ _ _ _ _ _ _ _ _ _ _ hx hy rfl hH (by omega) fun w2 h1 h2 => h w2 h1 (h2.congr fun o ho => set16 f c o ho)

theorem BSt.put16 {W w w3 : World} {C : Nat} {A : Option Addr} {n cp m : Nat} {x : Nat → Nat} {B2 B3 : Nat} {f : Nat → Int} {v : Nat → Int} (h : BSt W C A n cp x B2 B3 w m f) (hv : BI v) (ho : Only B3 w w3) (hn : Has w3 B3 16 (fun o => .int .i64 (v o))) : ∃ g, Hid (BI g) ∧ BSt W C A n cp x B2 B3 w3 m g :=
  ⟨v, hide hv, h.putF ho hn⟩

set_option maxHeartbeats 8000000 in
set_option maxRecDepth 100000 in
theorem formed3_rd {C : Nat} {A : Option Addr} {n cp m : Nat} {x : Nat → Nat} (hn : n ≤ 65536) (hm : m ≤ 700000) {w : World} (h : Rd w C A n cp m x) :
    Calls Try.prog 60 #[.pointer (some ⟨C, 0, none⟩)] w fun e w' => ∃ b : Nat → Int, e = .returned (.agg #[.int .i64 (b 0), .int .i64 (b 1), .int .i64 (b 2), .int .i64 (b 3), .int .i64 (b 4), .int .i64 (b 5), .int .i64 (b 6), .int .i64 (b 7), .int .i64 (b 8), .int .i64 (b 9), .int .i64 (b 10), .int .i64 (b 11), .int .i64 (b 12), .int .i64 (b 13), .int .i64 (b 14), .int .i64 (b 15)]) ∧ BI b ∧ Rd w' C A n cp (m + 200) x ∧ w.grownBy w' (some C) := by
  have hCl := h.lt
  have HAB : Hid (∀ b off, 0 < n → A = some ⟨b, off, none⟩ → b < w.heap.size) := hide (fun b off h0 e => by
    obtain ⟨b', off', e', hlt, _⟩ := h.1 h0
    rw [e'] at e
    cases e
    exact hlt)
  have HR := hide h
  clear h
  go_enter Try.func60, Try.ntmps60
  go_upto_region 1 with (fail)
  generalize hW : World.alloc w _ = w1
  have hb : Below w.heap.size w w1 := by (rw [← hW]; exact below_new (Below.refl _ _) _)
  have hR := HR.out.call hb
  have hG : w.grownBy w1 (some C) := gr_below _ hb
  have i2 : Has w1 w.heap.size 16 (fun _ => .int .i64 0) := by
    rw [← hW]
    exact (Has.new' (n := 16) rfl).congr fun o ho => lit16' (fun _ => 0) o ho
  have hCn2 : w.heap.size ≠ C := by omega
  clear hW hb HR
  go_upto_region 2 with (first | ((go_at_call 79); (refine (board_rd hn (by omega) hR).mono ?_); rintro e w2 ⟨b0, rfl, hb0, hR2, hG2⟩; have i2' := i2.grown hG2 (fun he => hCn2 (Option.some.inj he).symm); have hG3 := gr_trans hG hG2; clear hR hG i2 hG2; have hR := hR2; have hG := hG3; have i2 := i2'; clear hR2 hG3 i2') | (refine store_BoardF rfl _ _ rfl _ b0 rfl rfl (Has.new' (n := 16) rfl) ?_; intro w3 ho3 hn3))
  have hT := BSt.start hR hG i2 hCn2 (Nat.le_refl _) HAB.out ho3 hn3
  have HBI := hide hb0
  clear hR hG i2 ho3 hn3 HAB hb0
  generalize hB3 : w2.heap.size = B3 at *
  clear hB3
  go_upto_region 3 with (first | ((go_at_call 94); (refine (one_rd 2 hn (by omega) (by decide) (by decide) hT.rd).mono ?_); rintro e w2 ⟨yes, rfl, hR2, hG2⟩; have hT' := hT.call hR2 hG2; clear hT hR2 hG2; have hT := hT'; clear hT'))
  · skip
    have HRX := hide HBI.out
    go_wp2_with (first | (refine load_Board rfl _ rfl _ _ rfl hT.i3 (by omega) ?_) | (refine store_BoardF rfl _ _ rfl _ _ rfl rfl hT.i2 ?_; intro w9 ho9 hn9))
    exact bodyPost_ret (results_cell rfl rfl (loadVar_Board hn9 (by omega))) rfl ⟨_, rfl, HRX.out, (hT.last ho9).1.mono (by omega), (hT.last ho9).2⟩
  · obtain rfl : yes = false := by assumption
    go_wp2_with fail
    go_loopw [4] (fun v wr => ∃ (r : Nat) (f : Nat → Int), r ≤ 4 ∧ v = .int .i64 r ∧ Hid (BI f) ∧ BSt w C A n cp x w.heap.size B3 wr (m + 81 + 8 * r) f) (fun v _ => 4 - (intOf v).toNat)
    case atStart => exact ⟨0, b0, by omega, rfl, HBI, hT⟩
    case round =>
      clear hT HBI
      obtain ⟨r, f, hr, rfl, HBI, hT⟩ := hrel
      by_cases h4 : r = 4
      · subst h4
        go_upto_region 19 with (first | ((go_at_call 95); (refine (pick_rd 4 hn (by omega) (by decide) (by decide) hT.rd).mono ?_); rintro e w2 ⟨v, rfl, hv, hR2, hG2⟩; have hT' := hT.call hR2 hG2; clear hT hR2 hG2; have hT := hT'; clear hT'))
        rcases (by omega : v = 0 ∨ v = 1 ∨ 2 ≤ v) with rfl | rfl | h5
        · go_upto_region 20 with (fail)
          go_wp2_with fail
          go_loopw [6] (fun v wr => ∃ (r : Nat) (f : Nat → Int), r ≤ 4 ∧ v = .int .i64 r ∧ Hid (BI f) ∧ BSt w C A n cp x w.heap.size B3 wr (m + 114) f) (fun v _ => 4 - (intOf v).toNat)
          case atStart => exact ⟨0, f, by omega, rfl, HBI, hT⟩
          case round =>
            clear hT HBI
            obtain ⟨r, f, hr, rfl, HBI, hT⟩ := hrel
            by_cases h4 : r = 4
            · subst h4
              have HRX := hide HBI.out
              go_wp2_with (first | (refine load_Board rfl _ rfl _ _ rfl hT.i3 (by omega) ?_) | (refine store_BoardF rfl _ _ rfl _ _ rfl rfl hT.i2 ?_; intro w9 ho9 hn9))
              exact bodyPost_ret (results_cell rfl rfl (loadVar_Board hn9 (by omega))) rfl ⟨_, rfl, HRX.out, (hT.last ho9).1.mono (by omega), (hT.last ho9).2⟩
            · have hlt : r < 4 := by omega
              have hlti : (r : Int) < 4 := by omega
              have a0 : (0 : Int) ≤ r := by omega
              have q0 : wr.cell? ⟨B3, r * 4, none⟩ = some (.int .i64 (f (r * 4))) := hT.i3.1 _ (by omega)
              go_upto_region 24 with (first | ((refine wp_region_still_tail 9 (by kernel_rfl) (by kernel_rfl) ?_); (simp only [List.take_succ_cons, List.take_zero, List.drop_succ_cons, List.drop_zero]); (change wpStill _ _ (World.drew _) _ _ _); (repeat still_step); (refine wpStill_nil ?_); (change wpList _ _ _ _ _ (World.drew _))) | (refine store_int rfl _ _ rfl _ _ _ rfl rfl hT.draw.i3 (by omega) ?_; intro w3 ho3 hn3; obtain ⟨g, HBG, hT'⟩ := hT.draw.put' HBI.out ho3 hn3 (by first | exact HBI.out _ (by omega) | exact wrap_i64 _ | omega); clear hT ho3 hn3; have hT := hT'; clear hT'))
              have q1 : w3.cell? ⟨B3, r * 4 + 1, none⟩ = some (.int .i64 (g (r * 4 + 1))) := hT.i3.1 _ (by omega)
              clear HBI
              have HBI := HBG
              clear HBG
              go_wp2_with (first | ((refine wp_region_still_tail 9 (by kernel_rfl) (by kernel_rfl) ?_); (simp only [List.take_succ_cons, List.take_zero, List.drop_succ_cons, List.drop_zero]); (change wpStill _ _ (World.drew _) _ _ _); (repeat still_step); (refine wpStill_nil ?_); (change wpList _ _ _ _ _ (World.drew _))) | (refine store_int rfl _ _ rfl _ _ _ rfl rfl hT.draw.i3 (by omega) ?_; intro w3 ho3 hn3; obtain ⟨g, HBG, hT'⟩ := hT.draw.put' HBI.out ho3 hn3 (by first | exact HBI.out _ (by omega) | exact wrap_i64 _ | omega); clear hT ho3 hn3; have hT := hT'; clear hT'))
              go_roundw
              case rel => ((repeat (apply Exists.intro)); exact ⟨⟨r + 1, g, by omega, by go_num, HBG, hT⟩, rfl⟩)
              case measure => simp [intOf]; omega
        · go_upto_region 27 with (first | ((go_at_call 95); (refine (pick_rd 3 hn (by omega) (by decide) (by decide) hT.rd).mono ?_); rintro e w2 ⟨t, rfl, ht, hR2, hG2⟩; have hT' := hT.call hR2 hG2; clear hT hR2 hG2; have hT := hT'; clear hT'))
          obtain ⟨F, hF⟩ : ∃ F : Nat → Int, F = fun o => if o = 0 then (t : Int) else if o = 1 then 1 else if o = 2 then 2 else if o = 3 then (t : Int) else if o = 4 then 2 else if o = 5 then 0 else if o = 6 then 0 else if o = 7 then 1 else if o = 8 then 1 else if o = 9 then 0 else if o = 10 then 0 else if o = 11 then 2 else if o = 12 then (t : Int) else if o = 13 then 2 else if o = 14 then 1 else (t : Int) := ⟨_, rfl⟩
          have HFB : Hid (BI F) := hide (by
            intro i hi
            rw [hF]
            rcases p16 hi with rfl | rfl | rfl | rfl | rfl | rfl | rfl | rfl | rfl | rfl | rfl | rfl | rfl | rfl | rfl | rfl <;> simp <;> omega)
          go_upto_region 28 with (first | (refine store_A44F rfl _ _ rfl _ F rfl (by subst hF; rfl) hT.i3 ?_; intro w3 ho3 hn3))
          have hT' := hT.putF ho3 hn3
          clear hT ho3 hn3 hF
          have hT := hT'
          clear hT'
          have HRX := hide HFB.out
          go_wp2_with (first | (refine load_Board rfl _ rfl _ _ rfl hT.i3 (by omega) ?_) | (refine store_BoardF rfl _ _ rfl _ _ rfl rfl hT.i2 ?_; intro w9 ho9 hn9))
          exact bodyPost_ret (results_cell rfl rfl (loadVar_Board hn9 (by omega))) rfl ⟨_, rfl, HRX.out, (hT.last ho9).1.mono (by omega), (hT.last ho9).2⟩
        · have e0 : ((v : Int) == 0) = false := beq_eq_false_iff_ne.2 (by omega)
          have e1 : ((v : Int) == 1) = false := beq_eq_false_iff_ne.2 (by omega)
          have HRX := hide HBI.out
          go_wp2_with (first | (refine load_Board rfl _ rfl _ _ rfl hT.i3 (by omega) ?_) | (refine store_BoardF rfl _ _ rfl _ _ rfl rfl hT.i2 ?_; intro w9 ho9 hn9))
          exact bodyPost_ret (results_cell rfl rfl (loadVar_Board hn9 (by omega))) rfl ⟨_, rfl, HRX.out, (hT.last ho9).1.mono (by omega), (hT.last ho9).2⟩
      · have hlt : r < 4 := by omega
        have hlti : (r : Int) < 4 := by omega
        have a0 : (0 : Int) ≤ r := by omega
        have hdr : decide ((r : Int) < 4) = true := decide_eq_true hlti
        go_wp2_with fail
        go_loopw [5] (fun v wr => ∃ (k : Nat) (f : Nat → Int), k ≤ 4 ∧ v = .int .i64 k ∧ Hid (BI f) ∧ BSt w C A n cp x w.heap.size B3 wr (m + 81 + 8 * r + 2 * k) f) (fun v _ => 4 - (intOf v).toNat)
        case atStart => exact ⟨0, f, by omega, rfl, HBI, hT⟩
        case round =>
          clear hT HBI
          obtain ⟨k, f, hk, rfl, HBI, hT⟩ := hrel
          by_cases h4 : k = 4
          · subst h4
            go_wp2
            go_roundw
            case rel => exact ⟨r + 1, f, by omega, by go_num, HBI, hT.mono (by omega)⟩
            case measure => simp [intOf]; omega
          · have hltk : k < 4 := by omega
            have hltki : (k : Int) < 4 := by omega
            have a1 : (0 : Int) ≤ k := by omega
            go_upto_region 12 with (first | ((go_at_call 95); (refine (pick_rd 6 hn (by omega) (by decide) (by decide) hT.rd).mono ?_); rintro e w2 ⟨v, rfl, hv, hR2, hG2⟩; have hT' := hT.call hR2 hG2; clear hT hR2 hG2; have hT := hT'; clear hT'))
            rcases (by omega : v = 0 ∨ v = 1 ∨ v = 2 ∨ 3 ≤ v) with rfl | rfl | rfl | h5
            · obtain ⟨R, hR, hR4⟩ : ∃ R : Nat, (3 : Int) - r = R ∧ R < 4 := ⟨3 - r, by omega, by omega⟩
              obtain ⟨K, hK, hK4⟩ : ∃ K : Nat, (3 : Int) - k = K ∧ K < 4 := ⟨3 - k, by omega, by omega⟩
              have s1 : IntKind.i64.wrap (R : Int) = R := by exact IntWalk.i64_in _ (by omega)
              have s2 : IntKind.i64.wrap (K : Int) = K := by exact IntWalk.i64_in _ (by omega)
              have b1 : (0 : Int) ≤ R := by omega
              have b2 : (R : Int) < 4 := by omega
              have b3 : (0 : Int) ≤ K := by omega
              have b4 : (K : Int) < 4 := by omega
              have q0 : w2.cell? ⟨B3, R * 4 + K, none⟩ = some (.int .i64 (f (R * 4 + K))) := hT.i3.1 _ (by omega)
              go_upto_region 13 with (fail)
              go_wp2_with (first | ((refine wp_region_still_tail 13 (by kernel_rfl) (by kernel_rfl) ?_); (simp only [List.take_succ_cons, List.take_zero, List.drop_succ_cons, List.drop_zero]); (change wpStill _ _ (World.drew _) _ _ _); (repeat still_step); (refine wpStill_nil ?_); (change wpList _ _ _ _ _ (World.drew _))) | (refine store_int rfl _ _ rfl _ _ _ rfl rfl hT.draw.i3 (by omega) ?_; intro w3 ho3 hn3; obtain ⟨g, HBG, hT'⟩ := hT.draw.put' HBI.out ho3 hn3 (by first | exact HBI.out _ (by omega) | exact wrap_i64 _ | omega); clear hT ho3 hn3; have hT := hT'; clear hT'))
              go_roundw
              case rel => exact ⟨k + 1, g, by omega, by go_num, HBG, hT.mono (by omega)⟩
              case measure => simp [intOf]; omega
            · have q0 : w2.cell? ⟨B3, k * 4 + r, none⟩ = some (.int .i64 (f (k * 4 + r))) := hT.i3.1 _ (by omega)
              go_upto_region 15 with (fail)
              go_wp2_with (first | ((refine wp_region_still_tail 11 (by kernel_rfl) (by kernel_rfl) ?_); (simp only [List.take_succ_cons, List.take_zero, List.drop_succ_cons, List.drop_zero]); (change wpStill _ _ (World.drew _) _ _ _); (repeat still_step); (refine wpStill_nil ?_); (change wpList _ _ _ _ _ (World.drew _))) | (refine store_int rfl _ _ rfl _ _ _ rfl rfl hT.draw.i3 (by omega) ?_; intro w3 ho3 hn3; obtain ⟨g, HBG, hT'⟩ := hT.draw.put' HBI.out ho3 hn3 (by first | exact HBI.out _ (by omega) | exact wrap_i64 _ | omega); clear hT ho3 hn3; have hT := hT'; clear hT'))
              go_roundw
              case rel => exact ⟨k + 1, g, by omega, by go_num, HBG, hT.mono (by omega)⟩
              case measure => simp [intOf]; omega
            · obtain ⟨K, hK, hK4⟩ : ∃ K : Nat, (3 : Int) - k = K ∧ K < 4 := ⟨3 - k, by omega, by omega⟩
              have s2 : IntKind.i64.wrap (K : Int) = K := by exact IntWalk.i64_in _ (by omega)
              have b3 : (0 : Int) ≤ K := by omega
              have b4 : (K : Int) < 4 := by omega
              have q0 : w2.cell? ⟨B3, r * 4 + K, none⟩ = some (.int .i64 (f (r * 4 + K))) := hT.i3.1 _ (by omega)
              go_upto_region 17 with (fail)
              go_wp2_with (first | ((refine wp_region_still_tail 12 (by kernel_rfl) (by kernel_rfl) ?_); (simp only [List.take_succ_cons, List.take_zero, List.drop_succ_cons, List.drop_zero]); (change wpStill _ _ (World.drew _) _ _ _); (repeat still_step); (refine wpStill_nil ?_); (change wpList _ _ _ _ _ (World.drew _))) | (refine store_int rfl _ _ rfl _ _ _ rfl rfl hT.draw.i3 (by omega) ?_; intro w3 ho3 hn3; obtain ⟨g, HBG, hT'⟩ := hT.draw.put' HBI.out ho3 hn3 (by first | exact HBI.out _ (by omega) | exact wrap_i64 _ | omega); clear hT ho3 hn3; have hT := hT'; clear hT'))
              go_roundw
              case rel => exact ⟨k + 1, g, by omega, by go_num, HBG, hT.mono (by omega)⟩
              case measure => simp [intOf]; omega
            · have e0 : ((v : Int) == 0) = false := beq_eq_false_iff_ne.2 (by omega)
              have e1 : ((v : Int) == 1) = false := beq_eq_false_iff_ne.2 (by omega)
              have e2 : ((v : Int) == 2) = false := beq_eq_false_iff_ne.2 (by omega)
              go_upto_region 11 with (fail)
              refine wp_region_noPanic ?_
              refine wp_region_held_drew (S := fun _ => True) (by kernel_rfl) ?hS1 (fun hHeld => ?_)
              case hS1 => exact trivial
              have hT' := hT.draw; clear hT; have hT := hT'; clear hT'
              generalize hWW : World.drew _ = wx at *; clear hWW
              refine take_d (i := 0) (some 23) (v := ?_) rfl rfl (by kernel_rfl) (by kernel_rfl) (by kernel_rfl) (fun _ _ _ h => h) (Or.inl ⟨by rfl, ?_⟩) (by assumption) ?_
              rotate_left; (intro w hSw; clear hSw; go_simp; try with_reducible rfl)
              all_goals (try simp only [Act.put, List.setIfInBounds_toArray, List.set_cons_zero, List.set_cons_succ])
              refine take_d (i := 1) (some 24) (v := ?_) rfl rfl (by kernel_rfl) (by kernel_rfl) (by kernel_rfl) (fun _ _ _ h => h) (Or.inl ⟨by rfl, ?_⟩) (by assumption) ?_
              rotate_left; (intro w hSw; clear hSw; go_simp; try with_reducible rfl)
              all_goals (try simp only [Act.put, List.setIfInBounds_toArray, List.set_cons_zero, List.set_cons_succ])
              refine take_d (i := 2) (some 25) (v := ?_) rfl rfl (by kernel_rfl) (by kernel_rfl) (by kernel_rfl) (fun _ _ _ h => h) (Or.inl ⟨by rfl, ?_⟩) (by assumption) ?_
              rotate_left; (intro w hSw; clear hSw; go_simp; try with_reducible rfl)
              all_goals (try simp only [Act.put, List.setIfInBounds_toArray, List.set_cons_zero, List.set_cons_succ])
              refine take_d (i := 4) (some 27) (v := ?_) rfl rfl (by kernel_rfl) (by kernel_rfl) (by kernel_rfl) (fun _ _ _ h => h) (Or.inl ⟨by rfl, ?_⟩) (by assumption) ?_
              rotate_left; (intro w hSw; clear hSw; go_simp; try with_reducible rfl)
              all_goals (try simp only [Act.put, List.setIfInBounds_toArray, List.set_cons_zero, List.set_cons_succ])
              refine take_d (i := 5) (some 28) (v := ?_) rfl rfl (by kernel_rfl) (by kernel_rfl) (by kernel_rfl) (fun _ _ _ h => h) (Or.inl ⟨by rfl, ?_⟩) (by assumption) ?_
              rotate_left; (intro w hSw; clear hSw; go_simp; try with_reducible rfl)
              all_goals (try simp only [Act.put, List.setIfInBounds_toArray, List.set_cons_zero, List.set_cons_succ])
              refine wpAnyH_ready (rs := [3]) (by kernel_rfl) (by simp) ?_
              refine AllReadyH.cons (o := _) rfl (fun K hK => ?_) ?_
              ·
                go_simp
                refine (pick_rd 2 hn (by omega) (by decide) (by decide) hT.rd).mono ?_
                rintro e w2 ⟨z, rfl, hz, hR2, hG2⟩
                (try go_wp2_with fail)
                have hT' := hT.call hR2 hG2; clear hT hR2 hG2; have hT := hT'; clear hT'
                generalize hWW : w2 = wx at *; clear hWW
                refine hK.out _ _ ?hS2 (fun hHeld => ?_)
                case hS2 => exact trivial
                clear hK K
                (try simp only [Act.put, List.setIfInBounds_toArray, List.set_cons_zero, List.set_cons_succ])
                refine take_d (i := 6) (some 29) (v := ?_) rfl rfl (by kernel_rfl) (by kernel_rfl) (by kernel_rfl) (fun _ _ _ h => h) (Or.inl ⟨by rfl, ?_⟩) (by assumption) ?_
                rotate_left; (intro w hSw; clear hSw; go_simp; try with_reducible rfl)
                all_goals (try simp only [Act.put, List.setIfInBounds_toArray, List.set_cons_zero, List.set_cons_succ])
                refine wpAnyH_ready (rs := [7]) (by kernel_rfl) (by simp) ?_
                refine AllReadyH.cons (o := _) rfl (fun K hK => ?_) ?_
                ·
                  rw [if_pos (by rfl)]
                  refine wp_store_one 3 info_int _ _ rfl _ _ _ rfl rfl rfl rfl hT.i3 (by omega) ?_
                  intro w3 ho3 hn3
                  obtain ⟨g, HBG, hT'⟩ := hT.put' HBI.out ho3 hn3 (by first | exact lst_in ht (by decide) | exact wrap_i64 _ | omega); clear hT ho3 hn3; have hT := hT'; clear hT'
                  generalize hWW : w3 = wx at *; clear hWW
                  refine hK.out _ _ ?hS3 (fun hHeld => ?_)
                  case hS3 => exact trivial
                  clear hK K
                  (try simp only [Act.put, List.setIfInBounds_toArray, List.set_cons_zero, List.set_cons_succ])
                  refine wpAnyH_done (by kernel_rfl) ?_ _
                  (try refine NoPanic.normal ?_)
                  go_wp2
                  go_roundw
                  case rel => exact ⟨k + 1, g, by omega, by go_num, HBG, hT.mono (by omega)⟩
                  case measure => simp [intOf]; omega
                exact AllReadyH.nil
              exact AllReadyH.nil

end Go.Proofs.Ytegdnfmhhigjfaa
