/-
  Contract: a row drawn.
-/
import Derived.Test.YtmbmknpjmkgjlaaRd
import Derived.Test.YtmbmknpjmkgjlaaL2Row
import Derived.Test.YtmbmknpjmkgjlaaRow5
import Derived.Test.YtmbmknpjmkgjlaaSlideMath2
namespace Go.Proofs.Ytmbmknpjmkgjlaa
open Go.RowKit

theorem gr_fresh {w a b : World} {B : Nat} {q : Option Nat} (h : w.grownBy a q) (ho : Only B a b) (hB : w.heap.size ≤ B) : w.grownBy b q := by
  refine ⟨ho.os.trans h.os, ho.tape.trans h.tape, ho.output.trans h.output, Nat.le_trans h.size (Nat.le_of_eq ho.size.symm), fun k hk hne => ?_⟩
  rw [ho.block k (by omega), h.block k hk hne]
theorem store_A4R {ops : Array Oper} {rest : List Oper} {op : Oper} {a : Act} {w : World} {Q : Exit → Act → World → Prop} (hgd : op.guard = none) (x y : Operand) (ho : op.op = .store 22 x y)
    (b : Nat) (f : Nat → Int) (hx : a.eval x = .pointer (some ⟨b, 0, none⟩)) (hy : a.eval y = .agg #[.int .i64 (f 0), .int .i64 (f 1), .int .i64 (f 2), .int .i64 (f 3)]) {c : Nat → Value} (hH : Has w b 4 c)
    (h : ∀ w2, Only b w w2 → Has w2 b 4 (fun o => .int .i64 (f o)) → wpList Try.prog ops Q rest (a.put op.dst undef) w2) : wpList Try.prog ops Q (op :: rest) a w :=
  store_A4 hgd x y ho b 0 _ _ _ _ hx hy rfl hH (by omega) (fun w2 ho hn => h w2 ho (hn.congr fun o ho => by
    rcases (by omega : o = 0 ∨ o = 1 ∨ o = 2 ∨ o = 3) with rfl | rfl | rfl | rfl <;> rfl))
def RI (r : Nat → Int) : Prop := ∀ i, i < 4 → -9223372036854775808 ≤ r i ∧ r i ≤ 9223372036854775807

theorem rowB_of {r : Nat → Int} (h : ∀ i, i < 4 → 0 ≤ r i ∧ r i ≤ 17) : rowB (r 0) (r 1) (r 2) (r 3) = true := by
  have h0 := h 0 (by omega); have h1 := h 1 (by omega); have h2 := h 2 (by omega); have h3 := h 3 (by omega)
  simp only [rowB, inB, Bool.and_eq_true, decide_eq_true_eq]; omega

set_option maxHeartbeats 8000000 in
set_option maxRecDepth 100000 in
theorem row_rd {C : Nat} {A : Option Addr} {n cp m : Nat} {x : Nat → Nat} (hn : n ≤ 65536) (hm : m ≤ 900000) {w : World} (h : Rd w C A n cp m x) :
    Calls Try.prog 76 #[.pointer (some ⟨C, 0, none⟩)] w fun e w' => ∃ r : Nat → Int, e = .returned (.agg #[.int .i64 (r 0), .int .i64 (r 1), .int .i64 (r 2), .int .i64 (r 3)]) ∧ RI r ∧ Rd w' C A n cp (m + 20) x ∧ w.grownBy w' (some C) := by
  have hCl := h.lt
  have HAB : Hid (∀ b off, 0 < n → A = some ⟨b, off, none⟩ → b < w.heap.size) := hide (fun b off h0 e => by
    obtain ⟨b', off', e', hlt, _⟩ := h.1 h0
    rw [e'] at e
    cases e
    exact hlt)
  have HR := hide h
  clear h
  go_enter Try.func76, Try.ntmps76
  go_upto_region 2 with (fail)
  generalize hW : World.alloc (World.alloc w _) _ = w1
  have hb : Below w.heap.size w w1 := by (rw [← hW]; exact below_new (below_new (Below.refl _ _) _) _)
  have hR := HR.out.call hb
  have hG : w.grownBy w1 (some C) := gr_below _ hb
  have i2 : Has w1 w.heap.size 4 (fun _ => .int .i64 0) := by
    rw [← hW]
    exact ((Has.new' (n := 4) rfl).congr fun o ho => by rcases (by omega : o = 0 ∨ o = 1 ∨ o = 2 ∨ o = 3) with rfl | rfl | rfl | rfl <;> rfl).alloc _
  have i3 : Has w1 (w.heap.size + 1) 4 (fun o => .int .i64 ((fun _ => 0 : Nat → Int) o)) := by
    rw [← hW]
    have h1 := (Has.new' (w := w.alloc (.cells #[.int .i64 0, .int .i64 0, .int .i64 0, .int .i64 0] 22)) (cs := #[.int .i64 0, .int .i64 0, .int .i64 0, .int .i64 0]) (T := 22) (n := 4) rfl).congr (d := fun _ => .int .i64 0) fun o ho => by rcases (by omega : o = 0 ∨ o = 1 ∨ o = 2 ∨ o = 3) with rfl | rfl | rfl | rfl <;> rfl
    simpa using h1
  have hCn2 : w.heap.size ≠ C := by omega
  have hCn3 : w.heap.size + 1 ≠ C := by omega
  clear hW hb HR
  generalize hB3 : w.heap.size + 1 = B3 at *
  go_wp2_with fail
  go_loopw [4] (fun v4 wr => ∃ (k : Nat) (r : Nat → Int), k ≤ 4 ∧ v4 = .int .i64 k ∧ Hid (∀ i, 0 ≤ r i ∧ r i ≤ 5) ∧ Rd wr C A n cp (m + k) x ∧ w.grownBy wr (some C) ∧ Has wr B3 4 (fun o => .int .i64 (r o)) ∧ Has wr w.heap.size 4 (fun _ => .int .i64 0)) (fun v4 _ => 4 - (intOf v4).toNat)
  case atStart => exact ⟨0, fun _ => 0, by omega, rfl, hide (fun _ => ⟨by simp, by simp⟩), hR, hG, i3, i2⟩
  case round =>
    clear hR hG i3 i2
    obtain ⟨k, r, hk, rfl, hr, hR, hG, i3, i2⟩ := hrel
    by_cases h4 : k = 4
    · subst h4
      have HRI : Hid (RI r) := hide (fun i _ => by have := hr.out i; omega)
      go_upto_region 7 with ((go_at_call 66); (refine (pick_rd 20 hn (by omega) (by decide) (by decide) hR).mono ?_); rintro e w2 ⟨v, rfl, hv, hR2, hG2⟩; have i3' := i3.grown hG2 (fun he => hCn3 (Option.some.inj he).symm); have i2' := i2.grown hG2 (fun he => hCn2 (Option.some.inj he).symm); have hG3 := gr_trans hG hG2; clear hR hG i3 i2 hG2; have hR := hR2; have hG := hG3; have i3 := i3'; have i2 := i2'; clear hR2 hG3 i3' i2')
      rcases (by omega : v = 0 ∨ v = 1 ∨ v = 2 ∨ v = 3 ∨ v = 4 ∨ 5 ≤ v) with rfl | rfl | rfl | rfl | rfl | h5
      · go_upto_region 9 with (go_at_call 65; (refine (among_rd [16, 17, 1, 2] hn (by omega) (by decide) (by decide) hR _ _ _ rfl rfl).mono ?_); rintro e w2 ⟨t, ht, rfl, hR2, hG2⟩; have i3' := i3.grown hG2 (fun he => hCn3 (Option.some.inj he).symm); have i2' := i2.grown hG2 (fun he => hCn2 (Option.some.inj he).symm); have hG3 := gr_trans hG hG2; clear hR hG i3 i2 hG2; have hR := hR2; have hG := hG3; have i3 := i3'; have i2 := i2'; clear hR2 hG3 i3' i2')
        go_upto_region 18 with (first | (go_at_call 65; (refine (among_rd [t, 0, 1, 17] hn (by omega) (by simp) (by simp) hR _ _ _ rfl rfl).mono ?_); rintro e w2 ⟨t2, ht2, rfl, hR2, hG2⟩; have i3' := i3.grown hG2 (fun he => hCn3 (Option.some.inj he).symm); have i2' := i2.grown hG2 (fun he => hCn2 (Option.some.inj he).symm); have hG3 := gr_trans hG hG2; clear hR hG i3 i2 hG2; have hR := hR2; have hG := hG3; have i3 := i3'; have i2 := i2'; clear hR2 hG3 i3' i2') | (refine store_A4R rfl _ _ rfl _ (fun i => if i = 3 then t2 else t) rfl rfl i3 ?_; intro w3 ho3 hn3))
        have hR3 := hR.only ho3 hCn3 (fun b off h0 e => by have := HAB.out b off h0 e; omega)
        have hG3 := gr_fresh hG ho3 (by omega)
        have i23 := i2.only ho3 (by omega)
        clear hR hG i2 i3 ho3
        have hR := hR3; have hG := hG3; have i2 := i23; have i3 := hn3
        clear hR3 hG3 i23 hn3
        have HRX : Hid (RI (fun i => if i = 3 then t2 else t)) := hide (fun i _ => by
          simp only [List.mem_cons, List.not_mem_nil, or_false] at ht ht2
          dsimp only
          split <;> omega)
        obtain ⟨RR, hRR⟩ : ∃ RR : Nat → Int, RR = (fun i => if i = 3 then t2 else t) := ⟨_, rfl⟩
        have i3' := i3.congr (d := fun o => .int .i64 (RR o)) (fun o _ => by rw [hRR])
        rw [← hRR] at HRX
        clear i3; have i3 := i3'; clear i3'
        clear hRR
        go_wp2_with (first | (refine load_A4 rfl _ rfl _ _ rfl i3 (by omega) ?_) | (refine store_A4R rfl _ _ rfl _ RR rfl rfl i2 ?_; intro w9 ho9 hn9))
        exact bodyPost_ret (results_cell rfl rfl (loadVar_A4 hn9 (by omega))) rfl ⟨RR, rfl, HRX.out, (hR.only ho9 hCn2 (fun b off h0 e => by have := HAB.out b off h0 e; omega)).mono (by omega), gr_fresh hG ho9 (by omega)⟩
      · go_upto_region 18 with (first | (go_at_call 66; (refine (pick_rd 4 hn (by omega) (by decide) (by decide) hR).mono ?_); rintro e w2 ⟨v2, rfl, hv2, hR2, hG2⟩; have i3' := i3.grown hG2 (fun he => hCn3 (Option.some.inj he).symm); have i2' := i2.grown hG2 (fun he => hCn2 (Option.some.inj he).symm); have hG3 := gr_trans hG hG2; clear hR hG i3 i2 hG2; have hR := hR2; have hG := hG3; have i3 := i3'; have i2 := i2'; clear hR2 hG3 i3' i2') | (go_at_call 65; (refine (among_rd [-1, 18, 4611686018427387904] hn (by omega) (by decide) (by decide) hR _ _ _ rfl rfl).mono ?_); rintro e w2 ⟨t, ht, rfl, hR2, hG2⟩; have i3' := i3.grown hG2 (fun he => hCn3 (Option.some.inj he).symm); have i2' := i2.grown hG2 (fun he => hCn2 (Option.some.inj he).symm); have hG3 := gr_trans hG hG2; clear hR hG i3 i2 hG2; have hR := hR2; have hG := hG3; have i3 := i3'; have i2 := i2'; clear hR2 hG3 i3' i2') | (refine store_int rfl _ _ rfl _ _ _ rfl rfl i3 (by omega) ?_; intro w3 ho3 hn3))
        have hR3 := hR.only ho3 hCn3 (fun b off h0 e => by have := HAB.out b off h0 e; omega)
        have hG3 := gr_fresh hG ho3 (by omega)
        have i23 := i2.only ho3 (by omega)
        clear hR hG i2 i3 ho3
        have hR := hR3; have hG := hG3; have i2 := i23; have i3 := hn3.congr (d := fun o => .int .i64 ((fun o => if o = v2 then t else r o) o)) fun o _ => ite_int _ _ _
        clear hR3 hG3 i23 hn3
        have HRX : Hid (RI (fun o => if o = v2 then t else r o)) := hide (fun i hi => by
          simp only [List.mem_cons, List.not_mem_nil, or_false] at ht
          dsimp only
          split
          · omega
          · exact HRI.out i hi)
        obtain ⟨RR, hRR⟩ : ∃ RR : Nat → Int, RR = (fun o => if o = v2 then t else r o) := ⟨_, rfl⟩
        have i3' := i3.congr (d := fun o => .int .i64 (RR o)) (fun o _ => by rw [hRR])
        rw [← hRR] at HRX
        clear i3; have i3 := i3'; clear i3'
        clear hRR
        go_wp2_with (first | (refine load_A4 rfl _ rfl _ _ rfl i3 (by omega) ?_) | (refine store_A4R rfl _ _ rfl _ RR rfl rfl i2 ?_; intro w9 ho9 hn9))
        exact bodyPost_ret (results_cell rfl rfl (loadVar_A4 hn9 (by omega))) rfl ⟨RR, rfl, HRX.out, (hR.only ho9 hCn2 (fun b off h0 e => by have := HAB.out b off h0 e; omega)).mono (by omega), gr_fresh hG ho9 (by omega)⟩
      all_goals (try (
        have hin : Hid (∀ i, i < 4 → 0 ≤ r i ∧ r i ≤ 17) := hide (fun i _ => by have := hr.out i; omega)
        have hrow := rowB_of hin.out
        go_upto_region 18 with (first | (refine load_A4 rfl _ rfl _ _ rfl i3 (by omega) ?_) | (go_at_call 43; (refine (l4Row_any _ _ _ _ _).mono ?_); rintro e w2 ⟨rfl, hb2⟩; have hR2 := hR.call hb2; have i3' := i3.call hb2; have i2' := i2.call hb2; have hG3 := gr_trans hG (gr_below _ hb2); clear hR hG i3 i2 hb2; have hR := hR2; have hG := hG3; have i3 := i3'; have i2 := i2'; clear hR2 hG3 i3' i2') | (go_at_call 58; (refine (l2Row_any r hin.out _).mono ?_); rintro e w2 ⟨rfl, hb2⟩; have hR2 := hR.call hb2; have i3' := i3.call hb2; have i2' := i2.call hb2; have hG3 := gr_trans hG (gr_below _ hb2); clear hR hG i3 i2 hb2; have hR := hR2; have hG := hG3; have i3 := i3'; have i2 := i2'; clear hR2 hG3 i3' i2') | (refine store_A4R rfl _ _ rfl _ (SR.slid r).out rfl rfl (Has.alloc i3 _) ?_; intro w3 ho3 hn3))
        have hbn := below_new (Below.refl w2.heap.size w2) (.cells #[.int .i64 ((SR.slid r).out 0), .int .i64 ((SR.slid r).out 1), .int .i64 ((SR.slid r).out 2), .int .i64 ((SR.slid r).out 3)] 22)
        have hR3 := (hR.call hbn).only ho3 hCn3 (fun b off h0 e => by have := HAB.out b off h0 e; omega)
        have hG3 := gr_fresh (gr_trans hG (gr_below _ hbn)) ho3 (by omega)
        have i23 := (i2.call hbn).only ho3 (by omega)
        clear hR hG i2 i3 ho3 hbn
        have hR := hR3; have hG := hG3; have i2 := i23; have i3 := hn3
        clear hR3 hG3 i23 hn3
        have HRX : Hid (RI (SR.slid r).out) := hide (fun i hi => by have := slid_in' hin.out i hi; omega)
        obtain ⟨RR, hRR⟩ : ∃ RR : Nat → Int, RR = (SR.slid r).out := ⟨_, rfl⟩
        have i3' := i3.congr (d := fun o => .int .i64 (RR o)) (fun o _ => by rw [hRR])
        rw [← hRR] at HRX
        clear i3; have i3 := i3'; clear i3'
        clear hRR
        go_wp2_with (first | (refine load_A4 rfl _ rfl _ _ rfl i3 (by omega) ?_) | (refine store_A4R rfl _ _ rfl _ RR rfl rfl i2 ?_; intro w9 ho9 hn9))
        exact bodyPost_ret (results_cell rfl rfl (loadVar_A4 hn9 (by omega))) rfl ⟨RR, rfl, HRX.out, (hR.only ho9 hCn2 (fun b off h0 e => by have := HAB.out b off h0 e; omega)).mono (by omega), gr_fresh hG ho9 (by omega)⟩))
      · have e0 : ((v : Int) == 0) = false := beq_eq_false_iff_ne.2 (by omega)
        have e1 : ((v : Int) == 1) = false := beq_eq_false_iff_ne.2 (by omega)
        have e2 : ((v : Int) == 2) = false := beq_eq_false_iff_ne.2 (by omega)
        have e3 : ((v : Int) == 3) = false := beq_eq_false_iff_ne.2 (by omega)
        have e4 : ((v : Int) == 4) = false := beq_eq_false_iff_ne.2 (by omega)
        go_wp2_with (first | (refine load_A4 rfl _ rfl _ _ rfl i3 (by omega) ?_) | (refine store_A4R rfl _ _ rfl _ r rfl rfl i2 ?_; intro w9 ho9 hn9))
        exact bodyPost_ret (results_cell rfl rfl (loadVar_A4 hn9 (by omega))) rfl ⟨r, rfl, HRI.out, (hR.only ho9 hCn2 (fun b off h0 e => by have := HAB.out b off h0 e; omega)).mono (by omega), gr_fresh hG ho9 (by omega)⟩
    · have hlt : k < 4 := by omega
      have a0 : (0 : Int) ≤ k := by omega
      have a1 : (k : Int) < 4 := by omega
      go_wp2_with (first | ((go_at_call 89); (refine (tile_rd hn (by omega) hR).mono ?_); rintro e w2 ⟨t, rfl, ht, hR2, hG2⟩; have i3' := i3.grown hG2 (fun he => hCn3 (Option.some.inj he).symm); have i2' := i2.grown hG2 (fun he => hCn2 (Option.some.inj he).symm); have hG3 := gr_trans hG hG2; clear hR hG i3 i2 hG2; have hR := hR2; have hG := hG3; have i3 := i3'; have i2 := i2'; clear hR2 hG3 i3' i2') | (refine store_int rfl _ _ rfl _ _ _ rfl rfl i3 (by omega) ?_; intro w3 ho3 hn3))
      have hR3 := hR.only ho3 hCn3 (fun b off h0 e => by have := HAB.out b off h0 e; omega)
      have hG3 := gr_fresh hG ho3 (by omega)
      have i23 := i2.only ho3 (by omega)
      clear hR hG i2 ho3
      go_roundw
      case rel => exact ⟨k + 1, fun o => if o = k then t else r o, by omega, by go_num, hide (fun i => by dsimp only; split; exact ht; exact hr.out i), hR3, hG3, hn3.congr fun o _ => ite_int _ _ _, i23⟩
      case measure => simp [intOf]; omega

end Go.Proofs.Ytmbmknpjmkgjlaa
