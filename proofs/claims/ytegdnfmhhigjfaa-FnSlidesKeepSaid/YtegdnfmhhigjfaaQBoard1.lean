/-
  Contracts of the tests on numbers, cells and boards.
-/
import Derived.Test.YtegdnfmhhigjfaaQBase
namespace Go.Proofs.Ytegdnfmhhigjfaa
open Go.RowKit

theorem isDirection_any (n : Int) (w : World) : Calls Try.prog 73 #[.int .i64 n] w fun e w' => e = .returned (.bool (inB n 0 3)) ∧ w = w' := by
  go_enter Try.func73, Try.ntmps73
  go_wp2_with (go_at_call 78; refine (in_any _ _ _ _).mono ?_; rintro e w1 ⟨rfl, rfl⟩)
  go_ret
  exact ⟨rfl, rfl⟩

theorem isForm_any (n : Int) (w : World) : Calls Try.prog 62 #[.int .i64 n] w fun e w' => e = .returned (.bool (inB n 0 7)) ∧ w = w' := by
  go_enter Try.func62, Try.ntmps62
  go_wp2_with (go_at_call 78; refine (in_any _ _ _ _).mono ?_; rintro e w1 ⟨rfl, rfl⟩)
  go_ret
  exact ⟨rfl, rfl⟩

theorem l2Side_any (n : Int) (w : World) : Calls Try.prog 75 #[.int .i64 n] w fun e w' => e = .returned (.bool (inB n 0 3)) ∧ w = w' := by
  go_enter Try.func75, Try.ntmps75
  go_wp2_with (go_at_call 105; refine (l1In_any _ _ _ _).mono ?_; rintro e w1 ⟨rfl, rfl⟩)
  go_ret
  exact ⟨rfl, rfl⟩

theorem l3Form_any (n : Int) (w : World) : Calls Try.prog 65 #[.int .i64 n] w fun e w' => e = .returned (.bool (inB n 0 7)) ∧ w = w' := by
  go_enter Try.func65, Try.ntmps65
  go_wp2_with (go_at_call 105; refine (l1In_any _ _ _ _).mono ?_; rintro e w1 ⟨rfl, rfl⟩)
  go_ret
  exact ⟨rfl, rfl⟩

theorem l2Tile_any (n : Int) (w : World) : Calls Try.prog 100 #[.int .i64 n] w fun e w' => e = .returned (.bool (inB n 1 17)) ∧ w = w' := by
  go_enter Try.func100, Try.ntmps100
  go_wp2_with (go_at_call 105; refine (l1In_any _ _ _ _).mono ?_; rintro e w1 ⟨rfl, rfl⟩)
  go_ret
  exact ⟨rfl, rfl⟩

theorem isCell_any (x y : Int) (w : World) : Calls Try.prog 97 #[.agg #[.int .i64 x, .int .i64 y]] w fun e w' => e = .returned (.bool (inB x 0 3 && inB y 0 3)) ∧ Below w.heap.size w w' := by
  go_enter Try.func97, Try.ntmps97
  go_wp2_with (go_at_call 78; refine (in_any _ _ _ _).mono ?_; rintro e w1 ⟨rfl, rfl⟩)
  all_goals
    go_ret
    refine ⟨ret_bool (by simp_all), (by repeat (first | (with_reducible exact Below.refl _ _) | (with_reducible assumption) | (with_reducible refine below_go ?_ (by with_reducible assumption)) | (with_reducible refine below_new ?_ _) | ((with_reducible refine below_put ?_ ?_ _); rotate_left; (dsimp only; omega)) | (with_reducible refine Below.drew ?_) | (with_reducible refine below_dn ?_ _)))⟩

theorem l2Cell_any (x y : Int) (w : World) : Calls Try.prog 99 #[.agg #[.int .i64 x, .int .i64 y]] w fun e w' => e = .returned (.bool (inB x 0 3 && inB y 0 3)) ∧ Below w.heap.size w w' := by
  go_enter Try.func99, Try.ntmps99
  go_wp2_with (go_at_call 105; refine (l1In_any _ _ _ _).mono ?_; rintro e w1 ⟨rfl, rfl⟩)
  all_goals
    go_ret
    refine ⟨ret_bool (by simp_all), (by repeat (first | (with_reducible exact Below.refl _ _) | (with_reducible assumption) | (with_reducible refine below_go ?_ (by with_reducible assumption)) | (with_reducible refine below_new ?_ _) | ((with_reducible refine below_put ?_ ?_ _); rotate_left; (dsimp only; omega)) | (with_reducible refine Below.drew ?_) | (with_reducible refine below_dn ?_ _)))⟩

def bdB (b : Nat → Int) : Bool := rowB (b 0) (b 1) (b 2) (b 3) && (rowB (b 4) (b 5) (b 6) (b 7) && (rowB (b 8) (b 9) (b 10) (b 11) && rowB (b 12) (b 13) (b 14) (b 15)))

set_option maxHeartbeats 4000000 in
theorem l2Board_any (b : Nat → Int) (w : World) : Calls Try.prog 64 #[.agg #[.int .i64 (b 0), .int .i64 (b 1), .int .i64 (b 2), .int .i64 (b 3), .int .i64 (b 4), .int .i64 (b 5), .int .i64 (b 6), .int .i64 (b 7), .int .i64 (b 8), .int .i64 (b 9), .int .i64 (b 10), .int .i64 (b 11), .int .i64 (b 12), .int .i64 (b 13), .int .i64 (b 14), .int .i64 (b 15)]] w fun e w' => e = .returned (.bool (bdB b)) ∧ Below w.heap.size w w' := by
  go_enter Try.func64, Try.ntmps64
  go_wp2_with (first | (rw [rounds_succ]) | (with_reducible refine wp_loop_rounds 5 ?_) | (go_at_call 105; refine (l1In_any _ _ _ _).mono ?_; rintro e w1 ⟨rfl, rfl⟩))
  all_goals
    go_ret
    refine ⟨ret_bool ?_, (by repeat (first | (with_reducible exact Below.refl _ _) | (with_reducible assumption) | (with_reducible refine below_go ?_ (by with_reducible assumption)) | (with_reducible refine below_new ?_ _) | ((with_reducible refine below_put ?_ ?_ _); rotate_left; (dsimp only; omega)) | (with_reducible refine Below.drew ?_) | (with_reducible refine below_dn ?_ _)))⟩
    simp_all [bdB, rowB]

end Go.Proofs.Ytegdnfmhhigjfaa

namespace Go.Proofs.Ytegdnfmhhigjfaa
open Go.RowKit

theorem load_A2 {ops : Array Oper} {rest : List Oper} {op : Oper} {a : Act} {w : World} {Q : Exit → Act → World → Prop} (hgd : op.guard = none) (x : Operand) (ho : op.op = .load 53 x)
    (b o : Nat) (hx : a.eval x = .pointer (some ⟨b, o, none⟩)) {n : Nat} {c : Nat → Value} (hH : Has w b n c) (hle : o + 2 ≤ n)
    (h : wpList Try.prog ops Q rest (a.put op.dst (.agg #[c o, c (o + 1)])) w) : wpList Try.prog ops Q (op :: rest) a w :=
  wpList_load_mid hgd 53 x ho b o hx [c o, c (o + 1)] _ (hH.range 2 hle) Try.underlying53 rfl (by kernel_rfl) h

theorem store_A2 {ops : Array Oper} {rest : List Oper} {op : Oper} {a : Act} {w : World} {Q : Exit → Act → World → Prop} (hgd : op.guard = none) (x y : Operand) (ho : op.op = .store 53 x y)
    (b o : Nat) (v0 v1 : Value) (hx : a.eval x = .pointer (some ⟨b, o, none⟩)) (hy : a.eval y = .agg #[v0, v1]) (h1 : ([v0, v1] : List Value).all (·.oneCell') = true) {n : Nat} {c : Nat → Value} (hH : Has w b n c) (hle : o + 2 ≤ n)
    (h : ∀ w2, Only b w w2 → Has w2 b n (fun j => if j = o then v0 else if j = o + 1 then v1 else c j) → wpList Try.prog ops Q rest (a.put op.dst undef) w2) : wpList Try.prog ops Q (op :: rest) a w :=
  wpList_store_mid hgd 53 x y ho b o #[v0, v1] hx hy (hH.there 2 hle) (by kernel_rfl) (by simpa using h1)
    (h _ (only_setCells _ _ _ _) (by
      refine (hH.sets [v0, v1] hle).congr fun j _ => ?_
      simp only [List.length_cons, List.length_nil]
      by_cases hj : o ≤ j ∧ j < o + 2
      · obtain ⟨i, rfl⟩ : ∃ i, j = o + i := ⟨j - o, by omega⟩
        have hi : i < 2 := by omega
        rw [if_pos (by omega)]
        rcases (by omega : i = 0 ∨ i = 1) with rfl | rfl <;> simp
      · rw [if_neg (by omega)]
        repeat rw [if_neg (by omega)]))

theorem loadVar_A2 {w : World} {b n : Nat} {c : Nat → Value} (hH : Has w b n c) (hle : 2 ≤ n) : (loadVar 53 ⟨b, 0, none⟩).run Try.prog w = .ok (.agg #[c 0, c 1]) w :=
  run_loadVar_mid w b 0 53 [c 0, c 1] _ (hH.range 2 (by omega) (by simp [List.range_succ])) Try.underlying53 rfl (by kernel_rfl)


theorem load_A44 {ops : Array Oper} {rest : List Oper} {op : Oper} {a : Act} {w : World} {Q : Exit → Act → World → Prop} (hgd : op.guard = none) (x : Operand) (ho : op.op = .load 25 x)
    (b o : Nat) (hx : a.eval x = .pointer (some ⟨b, o, none⟩)) {n : Nat} {c : Nat → Value} (hH : Has w b n c) (hle : o + 16 ≤ n)
    (h : wpList Try.prog ops Q rest (a.put op.dst (.agg #[c o, c (o + 1), c (o + 2), c (o + 3), c (o + 4), c (o + 5), c (o + 6), c (o + 7), c (o + 8), c (o + 9), c (o + 10), c (o + 11), c (o + 12), c (o + 13), c (o + 14), c (o + 15)])) w) : wpList Try.prog ops Q (op :: rest) a w :=
  wpList_load_mid hgd 25 x ho b o hx [c o, c (o + 1), c (o + 2), c (o + 3), c (o + 4), c (o + 5), c (o + 6), c (o + 7), c (o + 8), c (o + 9), c (o + 10), c (o + 11), c (o + 12), c (o + 13), c (o + 14), c (o + 15)] _ (hH.range 16 hle) Try.underlying25 rfl (by kernel_rfl) h

theorem store_A44 {ops : Array Oper} {rest : List Oper} {op : Oper} {a : Act} {w : World} {Q : Exit → Act → World → Prop} (hgd : op.guard = none) (x y : Operand) (ho : op.op = .store 25 x y)
    (b o : Nat) (v0 v1 v2 v3 v4 v5 v6 v7 v8 v9 v10 v11 v12 v13 v14 v15 : Value) (hx : a.eval x = .pointer (some ⟨b, o, none⟩)) (hy : a.eval y = .agg #[v0, v1, v2, v3, v4, v5, v6, v7, v8, v9, v10, v11, v12, v13, v14, v15]) (h1 : ([v0, v1, v2, v3, v4, v5, v6, v7, v8, v9, v10, v11, v12, v13, v14, v15] : List Value).all (·.oneCell') = true) {n : Nat} {c : Nat → Value} (hH : Has w b n c) (hle : o + 16 ≤ n)
    (h : ∀ w2, Only b w w2 → Has w2 b n (fun j => if j = o then v0 else if j = o + 1 then v1 else if j = o + 2 then v2 else if j = o + 3 then v3 else if j = o + 4 then v4 else if j = o + 5 then v5 else if j = o + 6 then v6 else if j = o + 7 then v7 else if j = o + 8 then v8 else if j = o + 9 then v9 else if j = o + 10 then v10 else if j = o + 11 then v11 else if j = o + 12 then v12 else if j = o + 13 then v13 else if j = o + 14 then v14 else if j = o + 15 then v15 else c j) → wpList Try.prog ops Q rest (a.put op.dst undef) w2) : wpList Try.prog ops Q (op :: rest) a w :=
  wpList_store_mid hgd 25 x y ho b o #[v0, v1, v2, v3, v4, v5, v6, v7, v8, v9, v10, v11, v12, v13, v14, v15] hx hy (hH.there 16 hle) (by kernel_rfl) (by simpa using h1)
    (h _ (only_setCells _ _ _ _) (by
      refine (hH.sets [v0, v1, v2, v3, v4, v5, v6, v7, v8, v9, v10, v11, v12, v13, v14, v15] hle).congr fun j _ => ?_
      simp only [List.length_cons, List.length_nil]
      by_cases hj : o ≤ j ∧ j < o + 16
      · obtain ⟨i, rfl⟩ : ∃ i, j = o + i := ⟨j - o, by omega⟩
        have hi : i < 16 := by omega
        rw [if_pos (by omega)]
        rcases (by omega : i = 0 ∨ i = 1 ∨ i = 2 ∨ i = 3 ∨ i = 4 ∨ i = 5 ∨ i = 6 ∨ i = 7 ∨ i = 8 ∨ i = 9 ∨ i = 10 ∨ i = 11 ∨ i = 12 ∨ i = 13 ∨ i = 14 ∨ i = 15) with rfl | rfl | rfl | rfl | rfl | rfl | rfl | rfl | rfl | rfl | rfl | rfl | rfl | rfl | rfl | rfl <;> simp
      · rw [if_neg (by omega)]
        repeat rw [if_neg (by omega)]))

theorem loadVar_A44 {w : World} {b n : Nat} {c : Nat → Value} (hH : Has w b n c) (hle : 16 ≤ n) : (loadVar 25 ⟨b, 0, none⟩).run Try.prog w = .ok (.agg #[c 0, c 1, c 2, c 3, c 4, c 5, c 6, c 7, c 8, c 9, c 10, c 11, c 12, c 13, c 14, c 15]) w :=
  run_loadVar_mid w b 0 25 [c 0, c 1, c 2, c 3, c 4, c 5, c 6, c 7, c 8, c 9, c 10, c 11, c 12, c 13, c 14, c 15] _ (hH.range 16 (by omega) (by simp [List.range_succ])) Try.underlying25 rfl (by kernel_rfl)


theorem load_Board {ops : Array Oper} {rest : List Oper} {op : Oper} {a : Act} {w : World} {Q : Exit → Act → World → Prop} (hgd : op.guard = none) (x : Operand) (ho : op.op = .load 27 x)
    (b o : Nat) (hx : a.eval x = .pointer (some ⟨b, o, none⟩)) {n : Nat} {c : Nat → Value} (hH : Has w b n c) (hle : o + 16 ≤ n)
    (h : wpList Try.prog ops Q rest (a.put op.dst (.agg #[c o, c (o + 1), c (o + 2), c (o + 3), c (o + 4), c (o + 5), c (o + 6), c (o + 7), c (o + 8), c (o + 9), c (o + 10), c (o + 11), c (o + 12), c (o + 13), c (o + 14), c (o + 15)])) w) : wpList Try.prog ops Q (op :: rest) a w :=
  wpList_load_mid hgd 27 x ho b o hx [c o, c (o + 1), c (o + 2), c (o + 3), c (o + 4), c (o + 5), c (o + 6), c (o + 7), c (o + 8), c (o + 9), c (o + 10), c (o + 11), c (o + 12), c (o + 13), c (o + 14), c (o + 15)] _ (hH.range 16 hle) Try.underlying27 rfl (by kernel_rfl) h

theorem store_Board {ops : Array Oper} {rest : List Oper} {op : Oper} {a : Act} {w : World} {Q : Exit → Act → World → Prop} (hgd : op.guard = none) (x y : Operand) (ho : op.op = .store 27 x y)
    (b o : Nat) (v0 v1 v2 v3 v4 v5 v6 v7 v8 v9 v10 v11 v12 v13 v14 v15 : Value) (hx : a.eval x = .pointer (some ⟨b, o, none⟩)) (hy : a.eval y = .agg #[v0, v1, v2, v3, v4, v5, v6, v7, v8, v9, v10, v11, v12, v13, v14, v15]) (h1 : ([v0, v1, v2, v3, v4, v5, v6, v7, v8, v9, v10, v11, v12, v13, v14, v15] : List Value).all (·.oneCell') = true) {n : Nat} {c : Nat → Value} (hH : Has w b n c) (hle : o + 16 ≤ n)
    (h : ∀ w2, Only b w w2 → Has w2 b n (fun j => if j = o then v0 else if j = o + 1 then v1 else if j = o + 2 then v2 else if j = o + 3 then v3 else if j = o + 4 then v4 else if j = o + 5 then v5 else if j = o + 6 then v6 else if j = o + 7 then v7 else if j = o + 8 then v8 else if j = o + 9 then v9 else if j = o + 10 then v10 else if j = o + 11 then v11 else if j = o + 12 then v12 else if j = o + 13 then v13 else if j = o + 14 then v14 else if j = o + 15 then v15 else c j) → wpList Try.prog ops Q rest (a.put op.dst undef) w2) : wpList Try.prog ops Q (op :: rest) a w :=
  wpList_store_mid hgd 27 x y ho b o #[v0, v1, v2, v3, v4, v5, v6, v7, v8, v9, v10, v11, v12, v13, v14, v15] hx hy (hH.there 16 hle) (by kernel_rfl) (by simpa using h1)
    (h _ (only_setCells _ _ _ _) (by
      refine (hH.sets [v0, v1, v2, v3, v4, v5, v6, v7, v8, v9, v10, v11, v12, v13, v14, v15] hle).congr fun j _ => ?_
      simp only [List.length_cons, List.length_nil]
      by_cases hj : o ≤ j ∧ j < o + 16
      · obtain ⟨i, rfl⟩ : ∃ i, j = o + i := ⟨j - o, by omega⟩
        have hi : i < 16 := by omega
        rw [if_pos (by omega)]
        rcases (by omega : i = 0 ∨ i = 1 ∨ i = 2 ∨ i = 3 ∨ i = 4 ∨ i = 5 ∨ i = 6 ∨ i = 7 ∨ i = 8 ∨ i = 9 ∨ i = 10 ∨ i = 11 ∨ i = 12 ∨ i = 13 ∨ i = 14 ∨ i = 15) with rfl | rfl | rfl | rfl | rfl | rfl | rfl | rfl | rfl | rfl | rfl | rfl | rfl | rfl | rfl | rfl <;> simp
      · rw [if_neg (by omega)]
        repeat rw [if_neg (by omega)]))

theorem loadVar_Board {w : World} {b n : Nat} {c : Nat → Value} (hH : Has w b n c) (hle : 16 ≤ n) : (loadVar 27 ⟨b, 0, none⟩).run Try.prog w = .ok (.agg #[c 0, c 1, c 2, c 3, c 4, c 5, c 6, c 7, c 8, c 9, c 10, c 11, c 12, c 13, c 14, c 15]) w :=
  run_loadVar_mid w b 0 27 [c 0, c 1, c 2, c 3, c 4, c 5, c 6, c 7, c 8, c 9, c 10, c 11, c 12, c 13, c 14, c 15] _ (hH.range 16 (by omega) (by simp [List.range_succ])) Try.underlying27 rfl (by kernel_rfl)


end Go.Proofs.Ytegdnfmhhigjfaa

namespace Go.Proofs.Ytegdnfmhhigjfaa

/-- A row while it slides: what stands in its four places, which of them came out of a merger, how many there are, the score. -/
structure SR where
  out : Nat → Int
  mg : Nat → Bool
  n : Nat
  score : Int

def SR.zero : SR := ⟨fun _ => 0, fun _ => false, 0, 0⟩
def wrt (t : Int) : Int := ((2 ^ t.toNat : Nat) : Int)
def SR.mer (s : SR) (t : Int) : Bool := decide (0 < s.n) && (decide (s.out (s.n - 1) = t) && (decide (t < 17) && !s.mg (s.n - 1)))
def SR.merged (s : SR) (t : Int) : SR := ⟨fun j => if j = s.n - 1 then t + 1 else s.out j, fun j => if j = s.n - 1 then true else s.mg j, s.n, s.score + wrt (t + 1)⟩
def SR.pushed (s : SR) (t : Int) : SR := ⟨fun j => if j = s.n then t else s.out j, s.mg, s.n + 1, s.score⟩
def SR.step (s : SR) (t : Int) : SR := if s.mer t = true then s.merged t else s.pushed t

/-- What holds of it behind k tiles. -/
structure SR.Ok (s : SR) (k : Nat) : Prop where
  n : s.n ≤ k
  lo : 0 ≤ s.score
  hi : s.score ≤ 262144 * k
  free : ∀ j, s.n ≤ j → s.mg j = false
  zero : ∀ j, s.n ≤ j → s.out j = 0
  pos : ∀ j, j < s.n → 1 ≤ s.out j ∧ s.out j ≤ 17

theorem SR.ok_zero : SR.zero.Ok 0 := ⟨Nat.le_refl _, Int.le_refl _, by simp [SR.zero], fun _ _ => rfl, fun _ _ => rfl, fun j hj => absurd hj (Nat.not_lt_zero _)⟩

theorem wrt_le {t : Int} (h : t ≤ 18) : 0 ≤ wrt t ∧ wrt t ≤ 262144 := by
  unfold wrt
  have h2 : 2 ^ t.toNat ≤ 2 ^ 18 := Nat.pow_le_pow_right (by omega) (by omega)
  exact ⟨Int.natCast_nonneg _, Int.ofNat_le.2 h2⟩

theorem SR.mer_true {s : SR} {t : Int} (h : s.mer t = true) : 0 < s.n ∧ s.out (s.n - 1) = t ∧ t < 17 ∧ s.mg (s.n - 1) = false := by
  simpa [SR.mer] using h

theorem SR.ok_step {s : SR} {k : Nat} {t : Int} (h : s.Ok k) (h1 : 1 ≤ t) (h2 : t ≤ 17) : (s.step t).Ok (k + 1) := by
  unfold SR.step
  split
  · rename_i hm
    obtain ⟨a, b, c, d⟩ := SR.mer_true hm
    have hw := wrt_le (t := t + 1) (by omega)
    refine ⟨by have := h.n; simp only [SR.merged]; omega, by have := h.lo; simp only [SR.merged]; omega, by have := h.hi; simp only [SR.merged]; omega, fun j hj => ?_, fun j hj => ?_, fun j hj => ?_⟩
    · simp only [SR.merged] at hj ⊢
      rw [if_neg (by omega)]; exact h.free j hj
    · simp only [SR.merged] at hj ⊢
      rw [if_neg (by omega)]; exact h.zero j hj
    · simp only [SR.merged] at hj ⊢
      split
      · omega
      · exact h.pos j hj
  · refine ⟨by have := h.n; simp only [SR.pushed]; omega, by have := h.lo; simp only [SR.pushed]; omega, by have := h.hi; simp only [SR.pushed]; omega, fun j hj => ?_, fun j hj => ?_, fun j hj => ?_⟩
    · simp only [SR.pushed] at hj ⊢
      exact h.free j (by omega)
    · simp only [SR.pushed] at hj ⊢
      rw [if_neg (by omega)]; exact h.zero j (by omega)
    · simp only [SR.pushed] at hj ⊢
      split
      · omega
      · exact h.pos j (by omega)

/-- The reference's step: an empty cell changes nothing. -/
def SR.sstep (s : SR) (t : Int) : SR := if t = 0 then s else s.step t

/-- The row behind n of its cells. -/
def SR.upto (r : Nat → Int) : Nat → SR
  | 0 => SR.zero
  | n + 1 => (SR.upto r n).sstep (r n)

theorem SR.ok_upto (r : Nat → Int) (h : ∀ i, i < 4 → 0 ≤ r i ∧ r i ≤ 17) : ∀ n, n ≤ 4 → (SR.upto r n).Ok n
  | 0, _ => SR.ok_zero
  | n + 1, hn => by
    have ih := SR.ok_upto r h n (by omega)
    have hb := h n (by omega)
    show ((SR.upto r n).sstep (r n)).Ok (n + 1)
    unfold SR.sstep
    split
    · have := ih.n; have := ih.hi
      exact ⟨by omega, ih.lo, by omega, ih.free, ih.zero, ih.pos⟩
    · exact SR.ok_step ih (by omega) hb.2

def SR.slid (r : Nat → Int) : SR := SR.upto r 4

/-- The tiles of a row. -/
def tilesL (r : Nat → Int) : List Int := ([r 0, r 1, r 2, r 3] : List Int).filter fun t => !decide (t = 0)

theorem SR.foldl_tiles (r : Nat → Int) : (tilesL r).foldl SR.step SR.zero = SR.slid r := by
  have key : ∀ (l : List Int) (s : SR), (l.filter fun t => !decide (t = 0)).foldl SR.step s = l.foldl SR.sstep s := by
    intro l
    induction l with
    | nil => intro s; rfl
    | cons x l ih =>
      intro s
      by_cases h : x = 0
      · simp [h, SR.sstep, ih]
      · simp [h, SR.sstep, ih]
  exact (key _ _).trans rfl

theorem tilesL_len (r : Nat → Int) : (tilesL r).length ≤ 4 := Nat.le_trans (List.length_filter_le _ _) (Nat.le_refl _)
theorem tilesL_pos (r : Nat → Int) (h : ∀ i, i < 4 → 0 ≤ r i ∧ r i ≤ 17) : ∀ t, t ∈ tilesL r → 1 ≤ t ∧ t ≤ 17 := by
  intro t ht
  have h0 := h 0 (by omega); have h1 := h 1 (by omega); have h2 := h 2 (by omega); have h3 := h 3 (by omega)
  simp only [tilesL, List.mem_filter, List.mem_cons, List.not_mem_nil, or_false, Bool.not_eq_true', decide_eq_false_iff_not] at ht
  obtain ⟨h, hz⟩ := ht
  rcases h with rfl | rfl | rfl | rfl <;> omega

def SR.tiles (l : List Int) (n : Nat) : SR := (l.take n).foldl SR.step SR.zero
theorem SR.tiles_succ {l : List Int} {n : Nat} (h : n < l.length) : SR.tiles l (n + 1) = (SR.tiles l n).step (l.getD n 0) := by
  unfold SR.tiles
  rw [List.take_succ_eq_append_getElem h, List.foldl_append]
  simp [h]
theorem SR.ok_tiles {l : List Int} (h : ∀ t, t ∈ l → 1 ≤ t ∧ t ≤ 17) : ∀ n, n ≤ l.length → (SR.tiles l n).Ok n
  | 0, _ => SR.ok_zero
  | n + 1, hn => by
    rw [SR.tiles_succ (by omega)]
    have hm := h (l.getD n 0) (by simp [show n < l.length by omega])
    exact SR.ok_step (SR.ok_tiles h n (by omega)) hm.1 hm.2

end Go.Proofs.Ytegdnfmhhigjfaa

namespace Go.Proofs.Ytegdnfmhhigjfaa

/-- The place of cell k of line i in direction d; the line and the place in it of a cell. -/
def lineAt (d i k : Nat) : Nat := match d with | 0 => 4 * i + k | 1 => 4 * k + i | 2 => 4 * i + (3 - k) | _ => 4 * (3 - k) + i
def lnI (d p : Nat) : Nat := match d with | 0 => p / 4 | 1 => p % 4 | 2 => p / 4 | _ => p % 4
def lnK (d p : Nat) : Nat := match d with | 0 => p % 4 | 1 => p / 4 | 2 => 3 - p % 4 | _ => 3 - p / 4
def lineOf (b : Nat → Int) (d i : Nat) : Nat → Int := fun k => b (lineAt d i k)

theorem d4 {d : Nat} (h : d < 4) : d = 0 ∨ d = 1 ∨ d = 2 ∨ d = 3 := by omega
theorem lineAt_lt {d i k : Nat} (hi : i < 4) (hk : k < 4) : lineAt d i k < 16 := by
  unfold lineAt; split <;> omega
theorem lnI_at {d i k : Nat} (hd : d < 4) (hi : i < 4) (hk : k < 4) : lnI d (lineAt d i k) = i := by
  rcases d4 hd with rfl | rfl | rfl | rfl <;> simp only [lineAt, lnI] <;> omega
theorem lnK_at {d i k : Nat} (hd : d < 4) (hi : i < 4) (hk : k < 4) : lnK d (lineAt d i k) = k := by
  rcases d4 hd with rfl | rfl | rfl | rfl <;> simp only [lineAt, lnK] <;> omega
theorem at_lnIK {d p : Nat} (hd : d < 4) (hp : p < 16) : lineAt d (lnI d p) (lnK d p) = p := by
  rcases d4 hd with rfl | rfl | rfl | rfl <;> simp only [lineAt, lnI, lnK] <;> omega
theorem lnI_lt {d p : Nat} (hp : p < 16) : lnI d p < 4 := by unfold lnI; split <;> omega
theorem lnK_lt {d p : Nat} : lnK d p < 4 ∨ 16 ≤ p := by unfold lnK; split <;> omega

/-- The board behind the first k stores of a row r into line i. -/
def setTo (b : Nat → Int) (d i : Nat) (r : Nat → Int) (k : Nat) : Nat → Int := fun p => if lnI d p = i ∧ lnK d p < k then r (lnK d p) else b p
def setL (b : Nat → Int) (d i : Nat) (r : Nat → Int) : Nat → Int := setTo b d i r 4
theorem setTo_zero (b : Nat → Int) (d i : Nat) (r : Nat → Int) : setTo b d i r 0 = b := by
  funext p; simp [setTo]
theorem setTo_succ {b : Nat → Int} {d i : Nat} {r : Nat → Int} {k p : Nat} (hd : d < 4) (hi : i < 4) (hk : k < 4) (hp : p < 16) :
    (if p = lineAt d i k then r k else setTo b d i r k p) = setTo b d i r (k + 1) p := by
  by_cases e : p = lineAt d i k
  · subst e
    simp [setTo, lnI_at hd hi hk, lnK_at hd hi hk]
  · rw [if_neg e]
    unfold setTo
    have h := at_lnIK hd hp
    by_cases h1 : lnI d p = i ∧ lnK d p < k
    · rw [if_pos h1, if_pos ⟨h1.1, by omega⟩]
    · rw [if_neg h1, if_neg]
      rintro ⟨rfl, h2⟩
      have : lnK d p = k := by
        by_cases h3 : lnK d p < k
        · exact absurd ⟨rfl, h3⟩ h1
        · omega
      subst this
      exact e h.symm

/-- The board behind a slide. -/
def slB (b : Nat → Int) (d : Nat) : Nat → Int := fun p => (SR.slid (lineOf b d (lnI d p))).out (lnK d p)
def slTo (b : Nat → Int) (d i : Nat) : Nat → Int := fun p => if lnI d p < i then slB b d p else b p
theorem slTo_zero (b : Nat → Int) (d : Nat) : slTo b d 0 = b := by funext p; simp [slTo]
theorem slTo_four {b : Nat → Int} {d p : Nat} (hp : p < 16) : slTo b d 4 p = slB b d p := by simp [slTo, lnI_lt hp]
theorem slTo_succ {b : Nat → Int} {d i p : Nat} (hp : p < 16) : setL (slTo b d i) d i (SR.slid (lineOf b d i)).out p = slTo b d (i + 1) p := by
  unfold setL setTo slTo
  by_cases h : lnI d p = i
  · subst h
    rw [if_pos ⟨rfl, by have := @lnK_lt d p; omega⟩, if_pos (by omega)]; rfl
  · rw [if_neg (fun hh => h hh.1)]
    by_cases h2 : lnI d p < i
    · rw [if_pos h2, if_pos (by omega)]
    · rw [if_neg h2, if_neg (by omega)]

/-- The score of a slide of the first i lines; the mergers. -/
def scTo (b : Nat → Int) (d : Nat) : Nat → Int
  | 0 => 0
  | i + 1 => scTo b d i + (SR.slid (lineOf b d i)).score
def cntM (m : Nat → Bool) : Nat → Int
  | 0 => 0
  | k + 1 => cntM m k + if m k = true then 1 else 0
def mgTo (b : Nat → Int) (d : Nat) : Nat → Int
  | 0 => 0
  | i + 1 => mgTo b d i + cntM (SR.slid (lineOf b d i)).mg 4
theorem cntM_le (m : Nat → Bool) : ∀ k, 0 ≤ cntM m k ∧ cntM m k ≤ k
  | 0 => ⟨Int.le_refl _, Int.le_refl _⟩
  | k + 1 => by have := cntM_le m k; simp only [cntM]; split <;> omega

def In17 (b : Nat → Int) (n : Nat) : Prop := ∀ i, i < n → 0 ≤ b i ∧ b i ≤ 17
theorem lineOf_in {b : Nat → Int} {d i : Nat} (h : In17 b 16) (hi : i < 4) : ∀ k, k < 4 → 0 ≤ lineOf b d i k ∧ lineOf b d i k ≤ 17 :=
  fun _ hk => h _ (lineAt_lt hi hk)
theorem scTo_le {b : Nat → Int} {d : Nat} (h : In17 b 16) : ∀ i, i ≤ 4 → 0 ≤ scTo b d i ∧ scTo b d i ≤ 1048576 * i
  | 0, _ => ⟨Int.le_refl _, Int.le_refl _⟩
  | i + 1, hi => by
    have h1 := scTo_le (d := d) h i (by omega)
    have h2 := SR.ok_upto (lineOf b d i) (lineOf_in h (by omega)) 4 (by omega)
    have := h2.lo; have := h2.hi
    simp only [scTo, SR.slid]; omega
theorem mgTo_le {b : Nat → Int} {d : Nat} : ∀ i, 0 ≤ mgTo b d i ∧ mgTo b d i ≤ 4 * i
  | 0 => ⟨Int.le_refl _, Int.le_refl _⟩
  | i + 1 => by
    have h1 := mgTo_le (b := b) (d := d) i
    have h2 := cntM_le (SR.slid (lineOf b d i)).mg 4
    simp only [mgTo]; omega
theorem slB_in {b : Nat → Int} {d : Nat} (hb : In17 b 16) : In17 (slB b d) 16 := by
  intro p hp
  have h := SR.ok_upto (lineOf b d (lnI d p)) (lineOf_in hb (lnI_lt hp)) 4 (by omega)
  by_cases hn : lnK d p < (SR.upto (lineOf b d (lnI d p)) 4).n
  · have := h.pos _ hn
    simp only [slB, SR.slid]; omega
  · have := h.zero (lnK d p) (by omega)
    simp only [slB, SR.slid]; omega

end Go.Proofs.Ytegdnfmhhigjfaa

namespace Go.Proofs.Ytegdnfmhhigjfaa
open Go.RowKit

set_option maxHeartbeats 1000000 in
theorem at_any (B : Nat) (x y : Int) (hx0 : 0 ≤ x) (hx3 : x < 4) (hy0 : 0 ≤ y) (hy3 : y < 4) (w : World) :
    Calls Try.prog 98 #[.pointer (some ⟨B, 0, none⟩), .agg #[.int .i64 x, .int .i64 y]] w fun e w' => e = .returned (.pointer (some ⟨B, x.toNat * 4 + y.toNat, none⟩)) ∧ Below w.heap.size w w' := by
  go_enter Try.func98, Try.ntmps98
  go_wp2_with (first | (go_quiet (fail)))
  go_ret
  exact ⟨rfl, (by repeat (first | (with_reducible exact Below.refl _ _) | (with_reducible assumption) | (with_reducible refine below_go ?_ (by with_reducible assumption)) | (with_reducible refine below_new ?_ _) | ((with_reducible refine below_put ?_ ?_ _); rotate_left; (dsimp only; omega)) | (with_reducible refine Below.drew ?_) | (with_reducible refine below_dn ?_ _)))⟩

def lcR (d : Nat) (i k : Int) : Int := match d with | 0 => i | 1 => k | 2 => i | _ => 3 - k
def lcC (d : Nat) (i k : Int) : Int := match d with | 0 => k | 1 => i | 2 => 3 - k | _ => i

set_option maxHeartbeats 1000000 in
theorem lineCell_any (d : Nat) (i k : Int) (hd : d < 4) (hk0 : 0 ≤ k) (hk3 : k < 4) (w : World) :
    Calls Try.prog 119 #[.int .i64 d, .int .i64 i, .int .i64 k] w fun e w' => e = .returned (.agg #[.int .i64 (lcR d i k), .int .i64 (lcC d i k)]) ∧ Below w.heap.size w w' := by
  rcases (by omega : d = 0 ∨ d = 1 ∨ d = 2 ∨ d = 3) with rfl | rfl | rfl | rfl
  all_goals
    clear hd
    go_enter Try.func119, Try.ntmps119
    go_wp2
    refine bodyPost_ret (v := .agg #[.int .i64 (lcR _ i k), .int .i64 (lcC _ i k)]) (by simp [results, Try.results119, go_sem, lcR, lcC]) rfl ⟨rfl, (by repeat (first | (with_reducible exact Below.refl _ _) | (with_reducible assumption) | (with_reducible refine below_go ?_ (by with_reducible assumption)) | (with_reducible refine below_new ?_ _) | ((with_reducible refine below_put ?_ ?_ _); rotate_left; (dsimp only; omega)) | (with_reducible refine Below.drew ?_) | (with_reducible refine below_dn ?_ _)))⟩

theorem lc_at {d i k : Nat} (hd : d < 4) (hi : i < 4) (hk : k < 4) : (lcR d i k).toNat * 4 + (lcC d i k).toNat = lineAt d i k := by
  rcases d4 hd with rfl | rfl | rfl | rfl <;> simp only [lineAt, lcR, lcC] <;> omega
theorem lc_in {d i k : Nat} (hd : d < 4) (hi : i < 4) (hk : k < 4) : 0 ≤ lcR d i k ∧ lcR d i k < 4 ∧ 0 ≤ lcC d i k ∧ lcC d i k < 4 := by
  rcases d4 hd with rfl | rfl | rfl | rfl <;> simp only [lcR, lcC] <;> omega

theorem at_line (B d i k : Nat) (hd : d < 4) (hi : i < 4) (hk : k < 4) (w : World) :
    Calls Try.prog 98 #[.pointer (some ⟨B, 0, none⟩), .agg #[.int .i64 (lcR d i k), .int .i64 (lcC d i k)]] w fun e w' => e = .returned (.pointer (some ⟨B, lineAt d i k, none⟩)) ∧ Below w.heap.size w w' := by
  have b := lc_in hd hi hk
  have h := at_any B (lcR d i k) (lcC d i k) b.1 b.2.1 b.2.2.1 b.2.2.2 w
  rw [lc_at hd hi hk] at h
  exact h

set_option maxHeartbeats 4000000 in
set_option maxRecDepth 100000 in
theorem line_any (b : Nat → Int) (d i : Nat) (hd : d < 4) (hi : i < 4) (w : World) :
    Calls Try.prog 77 #[.agg #[.int .i64 (b 0), .int .i64 (b 1), .int .i64 (b 2), .int .i64 (b 3), .int .i64 (b 4), .int .i64 (b 5), .int .i64 (b 6), .int .i64 (b 7), .int .i64 (b 8), .int .i64 (b 9), .int .i64 (b 10), .int .i64 (b 11), .int .i64 (b 12), .int .i64 (b 13), .int .i64 (b 14), .int .i64 (b 15)], .int .i64 d, .int .i64 i] w fun e w' => e = .returned (.agg #[.int .i64 ((lineOf b d i) 0), .int .i64 ((lineOf b d i) 1), .int .i64 ((lineOf b d i) 2), .int .i64 ((lineOf b d i) 3)]) ∧ Below w.heap.size w w' := by
  go_enter Try.func77, Try.ntmps77
  go_wp2_with fail
  generalize hW : ((w.alloc _).alloc _).alloc _ = w1
  have hB : Below w.heap.size w w1 := by (rw [← hW]; exact (by repeat (first | (with_reducible exact Below.refl _ _) | (with_reducible assumption) | (with_reducible refine below_go ?_ (by with_reducible assumption)) | (with_reducible refine below_new ?_ _) | ((with_reducible refine below_put ?_ ?_ _); rotate_left; (dsimp only; omega)) | (with_reducible refine Below.drew ?_) | (with_reducible refine below_dn ?_ _))))
  have hsz : Hid (w1.heap.size = w.heap.size + 1 + 1 + 1) := hide (by rw [← hW]; simp)
  have i0 : Has w1 (w.heap.size) 16 (fun o => .int .i64 (b o)) := by (rw [← hW]; repeat (first | (refine Has.new ?_ rfl; simp; done) | refine Has.alloc ?_ _))
  have ci0 := i0.1; have fi0 := i0.2.1; have zi0 := i0.2.2
  have i1 : Has w1 (w.heap.size + 1) 4 (fun _ => .int .i64 0) := by (rw [← hW]; repeat (first | (refine Has.new ?_ rfl; simp; done) | refine Has.alloc ?_ _))
  have ci1 := i1.1; have fi1 := i1.2.1; have zi1 := i1.2.2
  have i2 : Has w1 (w.heap.size + 1 + 1) 4 (fun _ => .int .i64 0) := by (rw [← hW]; repeat (first | (refine Has.new ?_ rfl; simp; done) | refine Has.alloc ?_ _))
  have ci2 := i2.1; have fi2 := i2.2.1; have zi2 := i2.2.2
  clear hW
  have S0 : Has w1 (w.heap.size + 1 + 1) 4 (fun o => .int .i64 (if o < 0 then lineOf b d i o else 0)) := i2.congr fun o _ => by simp
  clear i2 ci0 fi0 zi0 ci1 fi1 zi1 ci2 fi2 zi2 hsz
  go_loopw [10] (fun v wr => ∃ k : Nat, k ≤ 4 ∧ v = .int .i64 k ∧ Below w.heap.size w wr ∧ Has wr w.heap.size 16 (fun o => .int .i64 (b o)) ∧ Has wr (w.heap.size + 1) 4 (fun _ => .int .i64 0) ∧ Has wr (w.heap.size + 1 + 1) 4 (fun o => .int .i64 (if o < k then lineOf b d i o else 0))) (fun i _ => 4 - (intOf i).toNat)
  case atStart => exact ⟨0, by omega, rfl, hB, i0, i1, S0⟩
  case round =>
    clear S0 hB i0 i1
    obtain ⟨k, hk, rfl, hB, i0, i1, i2⟩ := hrel
    by_cases h4 : k = 4
    · subst h4
      have i2 := i2.congr (d := fun o => .int .i64 (lineOf b d i o)) fun o ho => by rw [if_pos ho]
      have ci1 := i1.1; have fi1 := i1.2.1; have zi1 := i1.2.2
      have ci2 := i2.1
      go_wp2
      refine bodyPost_ret (results_cell rfl rfl (loadVar_A4 (Has.set (Has.set (Has.set (Has.set i1)))) (by omega))) rfl ⟨rfl, (by repeat (first | (with_reducible exact Below.refl _ _) | (with_reducible assumption) | (with_reducible refine below_go ?_ (by with_reducible assumption)) | (with_reducible refine below_new ?_ _) | ((with_reducible refine below_put ?_ ?_ _); rotate_left; (dsimp only; omega)) | (with_reducible refine Below.drew ?_) | (with_reducible refine below_dn ?_ _)))⟩
    · have hlt : k < 4 := by omega
      have hL := lineAt_lt (d := d) hi hlt
      have ci0 := i0.1; have fi0 := i0.2.1; have zi0 := i0.2.2
      have ci1 := i1.1; have fi1 := i1.2.1; have zi1 := i1.2.2
      have ci2 := i2.1; have fi2 := i2.2.1; have zi2 := i2.2.2
      go_wp2_with (first | (go_at_call 119; (with_reducible refine (lineCell_any _ _ _ hd (by omega) (by omega) _).mono ?_); rintro e w2 ⟨rfl, hb2⟩; have hB' : Below w.heap.size w w2 := below_go (by repeat (first | (with_reducible exact Below.refl _ _) | (with_reducible assumption) | (with_reducible refine below_go ?_ (by with_reducible assumption)) | (with_reducible refine below_new ?_ _) | ((with_reducible refine below_put ?_ ?_ _); rotate_left; (dsimp only; omega)) | (with_reducible refine Below.drew ?_) | (with_reducible refine below_dn ?_ _))) hb2; have i0' : Has w2 (w.heap.size) 16 _ := Has.call (by repeat (first | (with_reducible assumption) | (with_reducible apply Has.set) | ((with_reducible apply Has.other); (case hne => (dsimp only; omega))) | (with_reducible apply Has.alloc) | (with_reducible apply Has.drew) | (with_reducible apply Has.drewN))) hb2; have i1' : Has w2 (w.heap.size + 1) 4 _ := Has.call (by repeat (first | (with_reducible assumption) | (with_reducible apply Has.set) | ((with_reducible apply Has.other); (case hne => (dsimp only; omega))) | (with_reducible apply Has.alloc) | (with_reducible apply Has.drew) | (with_reducible apply Has.drewN))) hb2; have i2' : Has w2 (w.heap.size + 1 + 1) 4 _ := Has.call (by repeat (first | (with_reducible assumption) | (with_reducible apply Has.set) | ((with_reducible apply Has.other); (case hne => (dsimp only; omega))) | (with_reducible apply Has.alloc) | (with_reducible apply Has.drew) | (with_reducible apply Has.drewN))) hb2; clear hB hb2; have hB := hB'; clear hB'; (try clear fi0); (try clear zi0); (try clear ci0); clear i0; have i0 := i0'; clear i0'; have ci0 := i0.1; have fi0 := i0.2.1; have zi0 := i0.2.2; (try clear fi1); (try clear zi1); (try clear ci1); clear i1; have i1 := i1'; clear i1'; have ci1 := i1.1; have fi1 := i1.2.1; have zi1 := i1.2.2; (try clear fi2); (try clear zi2); (try clear ci2); clear i2; have i2 := i2'; clear i2'; have ci2 := i2.1; have fi2 := i2.2.1; have zi2 := i2.2.2) | (go_at_call 98; (with_reducible refine (at_line _ _ _ _ hd hi hlt _).mono ?_); rintro e w2 ⟨rfl, hb2⟩; have hB' : Below w.heap.size w w2 := below_go (by repeat (first | (with_reducible exact Below.refl _ _) | (with_reducible assumption) | (with_reducible refine below_go ?_ (by with_reducible assumption)) | (with_reducible refine below_new ?_ _) | ((with_reducible refine below_put ?_ ?_ _); rotate_left; (dsimp only; omega)) | (with_reducible refine Below.drew ?_) | (with_reducible refine below_dn ?_ _))) hb2; have i0' : Has w2 (w.heap.size) 16 _ := Has.call (by repeat (first | (with_reducible assumption) | (with_reducible apply Has.set) | ((with_reducible apply Has.other); (case hne => (dsimp only; omega))) | (with_reducible apply Has.alloc) | (with_reducible apply Has.drew) | (with_reducible apply Has.drewN))) hb2; have i1' : Has w2 (w.heap.size + 1) 4 _ := Has.call (by repeat (first | (with_reducible assumption) | (with_reducible apply Has.set) | ((with_reducible apply Has.other); (case hne => (dsimp only; omega))) | (with_reducible apply Has.alloc) | (with_reducible apply Has.drew) | (with_reducible apply Has.drewN))) hb2; have i2' : Has w2 (w.heap.size + 1 + 1) 4 _ := Has.call (by repeat (first | (with_reducible assumption) | (with_reducible apply Has.set) | ((with_reducible apply Has.other); (case hne => (dsimp only; omega))) | (with_reducible apply Has.alloc) | (with_reducible apply Has.drew) | (with_reducible apply Has.drewN))) hb2; clear hB hb2; have hB := hB'; clear hB'; (try clear fi0); (try clear zi0); (try clear ci0); clear i0; have i0 := i0'; clear i0'; have ci0 := i0.1; have fi0 := i0.2.1; have zi0 := i0.2.2; (try clear fi1); (try clear zi1); (try clear ci1); clear i1; have i1 := i1'; clear i1'; have ci1 := i1.1; have fi1 := i1.2.1; have zi1 := i1.2.2; (try clear fi2); (try clear zi2); (try clear ci2); clear i2; have i2 := i2'; clear i2'; have ci2 := i2.1; have fi2 := i2.2.1; have zi2 := i2.2.2) | (refine load_int rfl _ rfl _ _ rfl (by repeat (first | (with_reducible assumption) | (with_reducible apply Has.set) | ((with_reducible apply Has.other); (case hne => (dsimp only; omega))) | (with_reducible apply Has.alloc) | (with_reducible apply Has.drew) | (with_reducible apply Has.drewN))) (by omega) ?_) | (refine store_int rfl _ _ rfl _ _ _ rfl rfl (by repeat (first | (with_reducible assumption) | (with_reducible apply Has.set) | ((with_reducible apply Has.other); (case hne => (dsimp only; omega))) | (with_reducible apply Has.alloc) | (with_reducible apply Has.drew) | (with_reducible apply Has.drewN))) (by omega) ?_; intro w3 ho3 hn3; have hB' : Below w.heap.size w w3 := below_only (by repeat (first | (with_reducible exact Below.refl _ _) | (with_reducible assumption) | (with_reducible refine below_go ?_ (by with_reducible assumption)) | (with_reducible refine below_new ?_ _) | ((with_reducible refine below_put ?_ ?_ _); rotate_left; (dsimp only; omega)) | (with_reducible refine Below.drew ?_) | (with_reducible refine below_dn ?_ _))) ho3 (by omega); have i0' : Has w3 (w.heap.size) 16 _ := (by first | (with_reducible exact hn3) | exact Has.only (by repeat (first | (with_reducible assumption) | (with_reducible apply Has.set) | ((with_reducible apply Has.other); (case hne => (dsimp only; omega))) | (with_reducible apply Has.alloc) | (with_reducible apply Has.drew) | (with_reducible apply Has.drewN))) ho3 (by omega)); have i1' : Has w3 (w.heap.size + 1) 4 _ := (by first | (with_reducible exact hn3) | exact Has.only (by repeat (first | (with_reducible assumption) | (with_reducible apply Has.set) | ((with_reducible apply Has.other); (case hne => (dsimp only; omega))) | (with_reducible apply Has.alloc) | (with_reducible apply Has.drew) | (with_reducible apply Has.drewN))) ho3 (by omega)); have i2' : Has w3 (w.heap.size + 1 + 1) 4 _ := (by first | (with_reducible exact hn3) | exact Has.only (by repeat (first | (with_reducible assumption) | (with_reducible apply Has.set) | ((with_reducible apply Has.other); (case hne => (dsimp only; omega))) | (with_reducible apply Has.alloc) | (with_reducible apply Has.drew) | (with_reducible apply Has.drewN))) ho3 (by omega)); clear ho3 hn3; clear hB; have hB := hB'; clear hB'; (try clear fi0); (try clear zi0); (try clear ci0); clear i0; have i0 := i0'; clear i0'; have ci0 := i0.1; have fi0 := i0.2.1; have zi0 := i0.2.2; (try clear fi1); (try clear zi1); (try clear ci1); clear i1; have i1 := i1'; clear i1'; have ci1 := i1.1; have fi1 := i1.2.1; have zi1 := i1.2.2; (try clear fi2); (try clear zi2); (try clear ci2); clear i2; have i2 := i2'; clear i2'; have ci2 := i2.1; have fi2 := i2.2.1; have zi2 := i2.2.2))
      go_roundw
      case rel => exact ⟨k + 1, by omega, by go_num, hB, i0, i1, i2.congr fun o _ => by
        by_cases e : o = k
        · subst e; rw [if_pos rfl, if_pos (by omega)]; rfl
        · rw [if_neg e]; congr 1; by_cases e2 : o < k
          · rw [if_pos e2, if_pos (by omega)]
          · rw [if_neg e2, if_neg (by omega)]⟩
      case measure => simp [intOf]; omega

end Go.Proofs.Ytegdnfmhhigjfaa

namespace Go.Proofs.Ytegdnfmhhigjfaa
open Go.RowKit

theorem wrap_wrt {t : Int} (h1 : t ≤ 18) : wrap64 (2 ^ t.toNat) = wrt t := by
  have e : ((2 : Int) ^ t.toNat) = wrt t := by unfold wrt; rw [Int.natCast_pow]; rfl
  have h := wrt_le h1
  rw [e]
  unfold wrap64
  omega

def wz (t : Int) : Int := if t = 0 then 0 else wrt t

set_option maxHeartbeats 1000000 in
theorem worth_any (t : Int) (h0 : 0 ≤ t) (h1 : t ≤ 18) (w : World) : Calls Try.prog 118 #[.int .i64 t] w fun e w' => e = .returned (.int .i64 (wz t)) ∧ w = w' := by
  by_cases hz : t = 0
  · subst hz
    go_enter Try.func118, Try.ntmps118
    go_wp2
    go_ret
    exact ⟨rfl, rfl⟩
  · have e : wz t = wrt t := if_neg hz
    rw [e]
    go_enter Try.func118, Try.ntmps118
    go_wp2
    go_ret
    exact ⟨ret_int (wrap_wrt h1), rfl⟩

set_option maxHeartbeats 1000000 in
theorem l2Worth_any (t : Int) (h0 : 0 ≤ t) (h1 : t ≤ 18) (w : World) : Calls Try.prog 125 #[.int .i64 t] w fun e w' => e = .returned (.int .i64 (wrt t)) ∧ w = w' := by
  go_enter Try.func125, Try.ntmps125
  go_wp2
  go_ret
  exact ⟨ret_int (wrap_wrt h1), rfl⟩

end Go.Proofs.Ytegdnfmhhigjfaa

namespace Go.Proofs.Ytegdnfmhhigjfaa
open Go.RowKit

/-- The loop's head behind k cells. -/
def L2S (w wr : World) (r : Nat → Int) (s : SR) : Prop :=
  Below w.heap.size w wr ∧ Has wr w.heap.size 4 (fun o => .int .i64 (r o)) ∧ Has wr (w.heap.size + 1) 4 (fun _ => .int .i64 0) ∧ Has wr (w.heap.size + 1 + 1) 4 (fun o => .int .i64 (s.out o))

set_option maxHeartbeats 4000000 in
theorem l2Row_any (r : Nat → Int) (hr : ∀ i, i < 4 → 0 ≤ r i ∧ r i ≤ 17) (w : World) : Calls Try.prog 120 #[.agg #[.int .i64 (r 0), .int .i64 (r 1), .int .i64 (r 2), .int .i64 (r 3)]] w fun e w' => e = .returned (.tuple #[.agg #[.int .i64 ((SR.slid r).out 0), .int .i64 ((SR.slid r).out 1), .int .i64 ((SR.slid r).out 2), .int .i64 ((SR.slid r).out 3)], .int .i64 (SR.slid r).score]) ∧ Below w.heap.size w w' := by
  go_enter Try.func120, Try.ntmps120
  go_wp2
  generalize hW : ((w.alloc _).alloc _).alloc _ = w1
  have S0 : L2S w w1 r SR.zero := by
    rw [← hW]
    refine ⟨(by repeat (first | (with_reducible exact Below.refl _ _) | (with_reducible assumption) | (with_reducible refine below_go ?_ (by with_reducible assumption)) | (with_reducible refine below_new ?_ _) | ((with_reducible refine below_put ?_ ?_ _); rotate_left; (dsimp only; omega)) | (with_reducible refine Below.drew ?_) | (with_reducible refine below_dn ?_ _))), ?_, ?_, ?_⟩ <;> (repeat (first | (refine Has.new ?_ rfl; simp; done) | refine Has.alloc ?_ _))
  clear hW
  go_loopw [5, 6, 7, 8] (fun v5 v6 v7 v8 wr => ∃ (k : Nat) (s : SR) (q : Bool), k ≤ 4 ∧ Hid (s = SR.upto r k) ∧ Hid (q = s.mg (s.n - 1)) ∧ v8 = .int .i64 k ∧ v5 = .int .i64 s.n ∧ v6 = .int .i64 s.score ∧ v7 = .bool q ∧ L2S w wr r s) (fun _ _ _ i _ => 4 - (intOf i).toNat)
  case atStart => exact ⟨0, SR.zero, false, by omega, hide rfl, hide rfl, rfl, rfl, rfl, rfl, S0⟩
  case round =>
    clear S0
    have HR := hide hr
    clear hr
    obtain ⟨k, s, q, hk, hs, hq, rfl, rfl, rfl, rfl, hB, i0, i1, i2⟩ := hrel
    have ok := SR.ok_upto r HR.out k hk
    rw [← hs.out] at ok
    have OK := hide ok
    clear ok
    have ci0 := i0.1; have fi0 := i0.2.1; have zi0 := i0.2.2
    have ci1 := i1.1; have fi1 := i1.2.1; have zi1 := i1.2.2
    have ci2 := i2.1; have fi2 := i2.2.1; have zi2 := i2.2.2
    by_cases h4 : k = 4
    · subst h4
      have e : s = SR.slid r := hs.out
      clear hs hk
      subst e
      go_wp2_with (first | (refine load_A4 rfl _ rfl _ _ rfl (by repeat (first | (with_reducible assumption) | (with_reducible apply Has.set) | ((with_reducible apply Has.other); (case hne => (dsimp only; omega))) | (with_reducible apply Has.alloc) | (with_reducible apply Has.drew) | (with_reducible apply Has.drewN))) (by omega) ?_) | (refine store_A4 rfl _ _ rfl _ _ _ _ _ _ rfl rfl rfl (by repeat (first | (with_reducible assumption) | (with_reducible apply Has.set) | ((with_reducible apply Has.other); (case hne => (dsimp only; omega))) | (with_reducible apply Has.alloc) | (with_reducible apply Has.drew) | (with_reducible apply Has.drewN))) (by omega) ?_; intro w3 ho3 hn3; have hB' : Below w.heap.size w w3 := below_only (by repeat (first | (with_reducible exact Below.refl _ _) | (with_reducible assumption) | (with_reducible refine below_go ?_ (by with_reducible assumption)) | (with_reducible refine below_new ?_ _) | ((with_reducible refine below_put ?_ ?_ _); rotate_left; (dsimp only; omega)) | (with_reducible refine Below.drew ?_) | (with_reducible refine below_dn ?_ _))) ho3 (by omega); have i0' : Has w3 (w.heap.size) 4 _ := (by first | (with_reducible exact hn3) | exact Has.only (by repeat (first | (with_reducible assumption) | (with_reducible apply Has.set) | ((with_reducible apply Has.other); (case hne => (dsimp only; omega))) | (with_reducible apply Has.alloc) | (with_reducible apply Has.drew) | (with_reducible apply Has.drewN))) ho3 (by omega)); have i1' : Has w3 (w.heap.size + 1) 4 _ := (by first | (with_reducible exact hn3) | exact Has.only (by repeat (first | (with_reducible assumption) | (with_reducible apply Has.set) | ((with_reducible apply Has.other); (case hne => (dsimp only; omega))) | (with_reducible apply Has.alloc) | (with_reducible apply Has.drew) | (with_reducible apply Has.drewN))) ho3 (by omega)); have i2' : Has w3 (w.heap.size + 1 + 1) 4 _ := (by first | (with_reducible exact hn3) | exact Has.only (by repeat (first | (with_reducible assumption) | (with_reducible apply Has.set) | ((with_reducible apply Has.other); (case hne => (dsimp only; omega))) | (with_reducible apply Has.alloc) | (with_reducible apply Has.drew) | (with_reducible apply Has.drewN))) ho3 (by omega)); clear ho3 hn3; clear hB; have hB := hB'; clear hB'; (try clear fi0); (try clear zi0); (try clear ci0); clear i0; have i0 := i0'; clear i0'; have ci0 := i0.1; have fi0 := i0.2.1; have zi0 := i0.2.2; (try clear fi1); (try clear zi1); (try clear ci1); clear i1; have i1 := i1'; clear i1'; have ci1 := i1.1; have fi1 := i1.2.1; have zi1 := i1.2.2; (try clear fi2); (try clear zi2); (try clear ci2); clear i2; have i2 := i2'; clear i2'; have ci2 := i2.1; have fi2 := i2.2.1; have zi2 := i2.2.2))
      refine bodyPost_ret (results_cell_t rfl rfl (loadVar_A4 i1 (by omega))) rfl ⟨rfl, (by repeat (first | (with_reducible exact Below.refl _ _) | (with_reducible assumption) | (with_reducible refine below_go ?_ (by with_reducible assumption)) | (with_reducible refine below_new ?_ _) | ((with_reducible refine below_put ?_ ?_ _); rotate_left; (dsimp only; omega)) | (with_reducible refine Below.drew ?_) | (with_reducible refine below_dn ?_ _)))⟩
    · have hlt : k < 4 := by omega
      have hb := HR.out k hlt
      obtain ⟨hb0, hb1⟩ := hb
      by_cases hz : r k = 0
      · go_wp2_with fail
        go_roundw
        case rel => exact ⟨k + 1, s, q, by omega, hide (by rw [SR.upto, ← hs.out]; simp [SR.sstep, hz]), hq, by go_num, rfl, rfl, rfl, hB, i0, i1, i2⟩
        case measure => simp [intOf]; omega
      · have hn := OK.out.n; have hlo := OK.out.lo; have hhi := OK.out.hi
        obtain ⟨out, mg, n, sc⟩ := s
        simp only at hn hlo hhi i2 ci2 fi2 zi2 ⊢
        have hn3 : (n : Int) ≤ 3 := by omega
        have hn0 : (0 : Int) ≤ n := by omega
        have hz' : (r k == 0) = false := by simpa using hz
        rcases Nat.eq_zero_or_pos n with hm | hm
        · subst hm
          have hst : Hid (SR.sstep ⟨out, mg, 0, sc⟩ (r k) = SR.pushed ⟨out, mg, 0, sc⟩ (r k)) := hide (by simp [SR.sstep, SR.step, SR.mer, hz])
          go_wp2_with (first | (refine store_int rfl _ _ rfl _ _ _ rfl rfl (by repeat (first | (with_reducible assumption) | (with_reducible apply Has.set) | ((with_reducible apply Has.other); (case hne => (dsimp only; omega))) | (with_reducible apply Has.alloc) | (with_reducible apply Has.drew) | (with_reducible apply Has.drewN))) (by omega) ?_; intro w3 ho3 hn3; have hB' : Below w.heap.size w w3 := below_only (by repeat (first | (with_reducible exact Below.refl _ _) | (with_reducible assumption) | (with_reducible refine below_go ?_ (by with_reducible assumption)) | (with_reducible refine below_new ?_ _) | ((with_reducible refine below_put ?_ ?_ _); rotate_left; (dsimp only; omega)) | (with_reducible refine Below.drew ?_) | (with_reducible refine below_dn ?_ _))) ho3 (by omega); have i0' : Has w3 (w.heap.size) 4 _ := (by first | (with_reducible exact hn3) | exact Has.only (by repeat (first | (with_reducible assumption) | (with_reducible apply Has.set) | ((with_reducible apply Has.other); (case hne => (dsimp only; omega))) | (with_reducible apply Has.alloc) | (with_reducible apply Has.drew) | (with_reducible apply Has.drewN))) ho3 (by omega)); have i1' : Has w3 (w.heap.size + 1) 4 _ := (by first | (with_reducible exact hn3) | exact Has.only (by repeat (first | (with_reducible assumption) | (with_reducible apply Has.set) | ((with_reducible apply Has.other); (case hne => (dsimp only; omega))) | (with_reducible apply Has.alloc) | (with_reducible apply Has.drew) | (with_reducible apply Has.drewN))) ho3 (by omega)); have i2' : Has w3 (w.heap.size + 1 + 1) 4 _ := (by first | (with_reducible exact hn3) | exact Has.only (by repeat (first | (with_reducible assumption) | (with_reducible apply Has.set) | ((with_reducible apply Has.other); (case hne => (dsimp only; omega))) | (with_reducible apply Has.alloc) | (with_reducible apply Has.drew) | (with_reducible apply Has.drewN))) ho3 (by omega)); clear ho3 hn3; clear hB; have hB := hB'; clear hB'; (try clear fi0); (try clear zi0); (try clear ci0); clear i0; have i0 := i0'; clear i0'; have ci0 := i0.1; have fi0 := i0.2.1; have zi0 := i0.2.2; (try clear fi1); (try clear zi1); (try clear ci1); clear i1; have i1 := i1'; clear i1'; have ci1 := i1.1; have fi1 := i1.2.1; have zi1 := i1.2.2; (try clear fi2); (try clear zi2); (try clear ci2); clear i2; have i2 := i2'; clear i2'; have ci2 := i2.1; have fi2 := i2.2.1; have zi2 := i2.2.2) | (go_quiet (fail)))
          go_roundw
          case rel => exact ⟨k + 1, SR.pushed ⟨out, mg, 0, sc⟩ (r k), false, by omega, hide (by rw [SR.upto, ← hs.out]; exact hst.out.symm), hide (by simpa [SR.pushed] using (OK.out.free (0) (Nat.le_refl _)).symm), by go_num, by go_num, rfl, rfl, hB, i0, i1, i2.congr fun o _ => (by simp only [SR.pushed]; split <;> rfl)⟩
          case measure => simp [intOf]; omega
        · obtain ⟨m, rfl⟩ : ∃ m, n = m + 1 := ⟨n - 1, by omega⟩
          have hm4 : m < 4 := by omega
          have hq' : Hid (q = mg m) := hide (by simpa using hq.out)
          clear hq
          by_cases he : out m = r k
          · have he' : (out m == r k) = true := by simpa using he
            have HE := hide he
            clear he
            by_cases h17 : r k = 17
            · have hst : Hid (SR.sstep ⟨out, mg, m + 1, sc⟩ (r k) = SR.pushed ⟨out, mg, m + 1, sc⟩ (r k)) := hide (by simp [SR.sstep, SR.step, SR.mer, h17])
              have h17' : ¬ r k < 17 := by omega
              clear h17
              go_wp2_with (first | (refine store_int rfl _ _ rfl _ _ _ rfl rfl (by repeat (first | (with_reducible assumption) | (with_reducible apply Has.set) | ((with_reducible apply Has.other); (case hne => (dsimp only; omega))) | (with_reducible apply Has.alloc) | (with_reducible apply Has.drew) | (with_reducible apply Has.drewN))) (by omega) ?_; intro w3 ho3 hn3; have hB' : Below w.heap.size w w3 := below_only (by repeat (first | (with_reducible exact Below.refl _ _) | (with_reducible assumption) | (with_reducible refine below_go ?_ (by with_reducible assumption)) | (with_reducible refine below_new ?_ _) | ((with_reducible refine below_put ?_ ?_ _); rotate_left; (dsimp only; omega)) | (with_reducible refine Below.drew ?_) | (with_reducible refine below_dn ?_ _))) ho3 (by omega); have i0' : Has w3 (w.heap.size) 4 _ := (by first | (with_reducible exact hn3) | exact Has.only (by repeat (first | (with_reducible assumption) | (with_reducible apply Has.set) | ((with_reducible apply Has.other); (case hne => (dsimp only; omega))) | (with_reducible apply Has.alloc) | (with_reducible apply Has.drew) | (with_reducible apply Has.drewN))) ho3 (by omega)); have i1' : Has w3 (w.heap.size + 1) 4 _ := (by first | (with_reducible exact hn3) | exact Has.only (by repeat (first | (with_reducible assumption) | (with_reducible apply Has.set) | ((with_reducible apply Has.other); (case hne => (dsimp only; omega))) | (with_reducible apply Has.alloc) | (with_reducible apply Has.drew) | (with_reducible apply Has.drewN))) ho3 (by omega)); have i2' : Has w3 (w.heap.size + 1 + 1) 4 _ := (by first | (with_reducible exact hn3) | exact Has.only (by repeat (first | (with_reducible assumption) | (with_reducible apply Has.set) | ((with_reducible apply Has.other); (case hne => (dsimp only; omega))) | (with_reducible apply Has.alloc) | (with_reducible apply Has.drew) | (with_reducible apply Has.drewN))) ho3 (by omega)); clear ho3 hn3; clear hB; have hB := hB'; clear hB'; (try clear fi0); (try clear zi0); (try clear ci0); clear i0; have i0 := i0'; clear i0'; have ci0 := i0.1; have fi0 := i0.2.1; have zi0 := i0.2.2; (try clear fi1); (try clear zi1); (try clear ci1); clear i1; have i1 := i1'; clear i1'; have ci1 := i1.1; have fi1 := i1.2.1; have zi1 := i1.2.2; (try clear fi2); (try clear zi2); (try clear ci2); clear i2; have i2 := i2'; clear i2'; have ci2 := i2.1; have fi2 := i2.2.1; have zi2 := i2.2.2) | (go_quiet (fail)))
              go_roundw
              case rel => exact ⟨k + 1, SR.pushed ⟨out, mg, m + 1, sc⟩ (r k), false, by omega, hide (by rw [SR.upto, ← hs.out]; exact hst.out.symm), hide (by simpa [SR.pushed] using (OK.out.free (m + 1) (Nat.le_refl _)).symm), by go_num, by go_num, rfl, rfl, hB, i0, i1, i2.congr fun o _ => (by simp only [SR.pushed]; split <;> rfl)⟩
              case measure => simp [intOf]; omega
            · have h17' : r k < 17 := by omega
              clear h17
              cases q with
              | true =>
                have hst : Hid (SR.sstep ⟨out, mg, m + 1, sc⟩ (r k) = SR.pushed ⟨out, mg, m + 1, sc⟩ (r k)) := hide (by simp [SR.sstep, SR.step, SR.mer, hz, ← hq'.out])
                go_wp2_with (first | (refine store_int rfl _ _ rfl _ _ _ rfl rfl (by repeat (first | (with_reducible assumption) | (with_reducible apply Has.set) | ((with_reducible apply Has.other); (case hne => (dsimp only; omega))) | (with_reducible apply Has.alloc) | (with_reducible apply Has.drew) | (with_reducible apply Has.drewN))) (by omega) ?_; intro w3 ho3 hn3; have hB' : Below w.heap.size w w3 := below_only (by repeat (first | (with_reducible exact Below.refl _ _) | (with_reducible assumption) | (with_reducible refine below_go ?_ (by with_reducible assumption)) | (with_reducible refine below_new ?_ _) | ((with_reducible refine below_put ?_ ?_ _); rotate_left; (dsimp only; omega)) | (with_reducible refine Below.drew ?_) | (with_reducible refine below_dn ?_ _))) ho3 (by omega); have i0' : Has w3 (w.heap.size) 4 _ := (by first | (with_reducible exact hn3) | exact Has.only (by repeat (first | (with_reducible assumption) | (with_reducible apply Has.set) | ((with_reducible apply Has.other); (case hne => (dsimp only; omega))) | (with_reducible apply Has.alloc) | (with_reducible apply Has.drew) | (with_reducible apply Has.drewN))) ho3 (by omega)); have i1' : Has w3 (w.heap.size + 1) 4 _ := (by first | (with_reducible exact hn3) | exact Has.only (by repeat (first | (with_reducible assumption) | (with_reducible apply Has.set) | ((with_reducible apply Has.other); (case hne => (dsimp only; omega))) | (with_reducible apply Has.alloc) | (with_reducible apply Has.drew) | (with_reducible apply Has.drewN))) ho3 (by omega)); have i2' : Has w3 (w.heap.size + 1 + 1) 4 _ := (by first | (with_reducible exact hn3) | exact Has.only (by repeat (first | (with_reducible assumption) | (with_reducible apply Has.set) | ((with_reducible apply Has.other); (case hne => (dsimp only; omega))) | (with_reducible apply Has.alloc) | (with_reducible apply Has.drew) | (with_reducible apply Has.drewN))) ho3 (by omega)); clear ho3 hn3; clear hB; have hB := hB'; clear hB'; (try clear fi0); (try clear zi0); (try clear ci0); clear i0; have i0 := i0'; clear i0'; have ci0 := i0.1; have fi0 := i0.2.1; have zi0 := i0.2.2; (try clear fi1); (try clear zi1); (try clear ci1); clear i1; have i1 := i1'; clear i1'; have ci1 := i1.1; have fi1 := i1.2.1; have zi1 := i1.2.2; (try clear fi2); (try clear zi2); (try clear ci2); clear i2; have i2 := i2'; clear i2'; have ci2 := i2.1; have fi2 := i2.2.1; have zi2 := i2.2.2) | (go_quiet (fail)))
                go_roundw
                case rel => exact ⟨k + 1, SR.pushed ⟨out, mg, m + 1, sc⟩ (r k), false, by omega, hide (by rw [SR.upto, ← hs.out]; exact hst.out.symm), hide (by simpa [SR.pushed] using (OK.out.free (m + 1) (Nat.le_refl _)).symm), by go_num, by go_num, rfl, rfl, hB, i0, i1, i2.congr fun o _ => (by simp only [SR.pushed]; split <;> rfl)⟩
                case measure => simp [intOf]; omega
              | false =>
                have hst : Hid (SR.sstep ⟨out, mg, m + 1, sc⟩ (r k) = SR.merged ⟨out, mg, m + 1, sc⟩ (r k)) := hide (by simp [SR.sstep, SR.step, SR.mer, hz, ← hq'.out, HE.out, h17'])
                have hw := wrt_le (t := r k + 1) (by omega)
                obtain ⟨hw0, hw1⟩ := hw
                go_wp2_with (first | (go_at_call 125; refine (l2Worth_any _ (by omega) (by omega) _).mono ?_; rintro e w1 ⟨rfl, rfl⟩) | (refine store_int rfl _ _ rfl _ _ _ rfl rfl (by repeat (first | (with_reducible assumption) | (with_reducible apply Has.set) | ((with_reducible apply Has.other); (case hne => (dsimp only; omega))) | (with_reducible apply Has.alloc) | (with_reducible apply Has.drew) | (with_reducible apply Has.drewN))) (by omega) ?_; intro w3 ho3 hn3; have hB' : Below w.heap.size w w3 := below_only (by repeat (first | (with_reducible exact Below.refl _ _) | (with_reducible assumption) | (with_reducible refine below_go ?_ (by with_reducible assumption)) | (with_reducible refine below_new ?_ _) | ((with_reducible refine below_put ?_ ?_ _); rotate_left; (dsimp only; omega)) | (with_reducible refine Below.drew ?_) | (with_reducible refine below_dn ?_ _))) ho3 (by omega); have i0' : Has w3 (w.heap.size) 4 _ := (by first | (with_reducible exact hn3) | exact Has.only (by repeat (first | (with_reducible assumption) | (with_reducible apply Has.set) | ((with_reducible apply Has.other); (case hne => (dsimp only; omega))) | (with_reducible apply Has.alloc) | (with_reducible apply Has.drew) | (with_reducible apply Has.drewN))) ho3 (by omega)); have i1' : Has w3 (w.heap.size + 1) 4 _ := (by first | (with_reducible exact hn3) | exact Has.only (by repeat (first | (with_reducible assumption) | (with_reducible apply Has.set) | ((with_reducible apply Has.other); (case hne => (dsimp only; omega))) | (with_reducible apply Has.alloc) | (with_reducible apply Has.drew) | (with_reducible apply Has.drewN))) ho3 (by omega)); have i2' : Has w3 (w.heap.size + 1 + 1) 4 _ := (by first | (with_reducible exact hn3) | exact Has.only (by repeat (first | (with_reducible assumption) | (with_reducible apply Has.set) | ((with_reducible apply Has.other); (case hne => (dsimp only; omega))) | (with_reducible apply Has.alloc) | (with_reducible apply Has.drew) | (with_reducible apply Has.drewN))) ho3 (by omega)); clear ho3 hn3; clear hB; have hB := hB'; clear hB'; (try clear fi0); (try clear zi0); (try clear ci0); clear i0; have i0 := i0'; clear i0'; have ci0 := i0.1; have fi0 := i0.2.1; have zi0 := i0.2.2; (try clear fi1); (try clear zi1); (try clear ci1); clear i1; have i1 := i1'; clear i1'; have ci1 := i1.1; have fi1 := i1.2.1; have zi1 := i1.2.2; (try clear fi2); (try clear zi2); (try clear ci2); clear i2; have i2 := i2'; clear i2'; have ci2 := i2.1; have fi2 := i2.2.1; have zi2 := i2.2.2) | (go_quiet (fail)))
                go_roundw
                case rel => exact ⟨k + 1, SR.merged ⟨out, mg, m + 1, sc⟩ (r k), true, by omega, hide (by rw [SR.upto, ← hs.out]; exact hst.out.symm), hide (by simp [SR.merged]), by go_num, by go_num, rfl, rfl, hB, i0, i1, i2.congr fun o _ => (by simp only [SR.merged, Nat.add_sub_cancel]; split <;> rfl)⟩
                case measure => simp [intOf]; omega
          · have hst : Hid (SR.sstep ⟨out, mg, m + 1, sc⟩ (r k) = SR.pushed ⟨out, mg, m + 1, sc⟩ (r k)) := hide (by simp [SR.sstep, SR.step, SR.mer, hz, he])
            have he' : (out m == r k) = false := by simpa using he
            go_wp2_with (first | (refine store_int rfl _ _ rfl _ _ _ rfl rfl (by repeat (first | (with_reducible assumption) | (with_reducible apply Has.set) | ((with_reducible apply Has.other); (case hne => (dsimp only; omega))) | (with_reducible apply Has.alloc) | (with_reducible apply Has.drew) | (with_reducible apply Has.drewN))) (by omega) ?_; intro w3 ho3 hn3; have hB' : Below w.heap.size w w3 := below_only (by repeat (first | (with_reducible exact Below.refl _ _) | (with_reducible assumption) | (with_reducible refine below_go ?_ (by with_reducible assumption)) | (with_reducible refine below_new ?_ _) | ((with_reducible refine below_put ?_ ?_ _); rotate_left; (dsimp only; omega)) | (with_reducible refine Below.drew ?_) | (with_reducible refine below_dn ?_ _))) ho3 (by omega); have i0' : Has w3 (w.heap.size) 4 _ := (by first | (with_reducible exact hn3) | exact Has.only (by repeat (first | (with_reducible assumption) | (with_reducible apply Has.set) | ((with_reducible apply Has.other); (case hne => (dsimp only; omega))) | (with_reducible apply Has.alloc) | (with_reducible apply Has.drew) | (with_reducible apply Has.drewN))) ho3 (by omega)); have i1' : Has w3 (w.heap.size + 1) 4 _ := (by first | (with_reducible exact hn3) | exact Has.only (by repeat (first | (with_reducible assumption) | (with_reducible apply Has.set) | ((with_reducible apply Has.other); (case hne => (dsimp only; omega))) | (with_reducible apply Has.alloc) | (with_reducible apply Has.drew) | (with_reducible apply Has.drewN))) ho3 (by omega)); have i2' : Has w3 (w.heap.size + 1 + 1) 4 _ := (by first | (with_reducible exact hn3) | exact Has.only (by repeat (first | (with_reducible assumption) | (with_reducible apply Has.set) | ((with_reducible apply Has.other); (case hne => (dsimp only; omega))) | (with_reducible apply Has.alloc) | (with_reducible apply Has.drew) | (with_reducible apply Has.drewN))) ho3 (by omega)); clear ho3 hn3; clear hB; have hB := hB'; clear hB'; (try clear fi0); (try clear zi0); (try clear ci0); clear i0; have i0 := i0'; clear i0'; have ci0 := i0.1; have fi0 := i0.2.1; have zi0 := i0.2.2; (try clear fi1); (try clear zi1); (try clear ci1); clear i1; have i1 := i1'; clear i1'; have ci1 := i1.1; have fi1 := i1.2.1; have zi1 := i1.2.2; (try clear fi2); (try clear zi2); (try clear ci2); clear i2; have i2 := i2'; clear i2'; have ci2 := i2.1; have fi2 := i2.2.1; have zi2 := i2.2.2) | (go_quiet (fail)))
            go_roundw
            case rel => exact ⟨k + 1, SR.pushed ⟨out, mg, m + 1, sc⟩ (r k), false, by omega, hide (by rw [SR.upto, ← hs.out]; exact hst.out.symm), hide (by simpa [SR.pushed] using (OK.out.free (m + 1) (Nat.le_refl _)).symm), by go_num, by go_num, rfl, rfl, hB, i0, i1, i2.congr fun o _ => (by simp only [SR.pushed]; split <;> rfl)⟩
            case measure => simp [intOf]; omega

end Go.Proofs.Ytegdnfmhhigjfaa

namespace Go.Proofs.Ytegdnfmhhigjfaa
open Go.RowKit

def allEq (x y : Nat → Int) (n : Nat) : Bool := decide (∀ i, i < n → x i = y i)
theorem allEq_zero (x y : Nat → Int) : allEq x y 0 = true := by simp [allEq]
theorem allEq_succ (x y : Nat → Int) (n : Nat) : allEq x y (n + 1) = (allEq x y n && decide (x n = y n)) := by
  rw [Bool.eq_iff_iff]
  simp only [allEq, decide_eq_true_eq, Bool.and_eq_true]
  constructor
  · exact fun h => ⟨fun i hi => h i (by omega), h n (by omega)⟩
  · intro h i hi
    rcases Nat.lt_or_ge i n with h1 | h1
    · exact h.1 i h1
    · obtain rfl : i = n := by omega
      exact h.2

theorem run_eqLoop {P : Program} {w : World} (q : Nat → Bool) (body : Nat → Option Bool × Unit → Sem (ForInStep (Option Bool × Unit))) : ∀ (l : List Nat), (∀ i, i ∈ l → ∀ s, (body i s).run P w = .ok (if q i = true then .yield (none, ()) else .done (some false, ())) w) →
    (forIn l (none, ()) body).run P w = .ok (if l.all q = true then (none, ()) else (some false, ())) w
  | [], _ => rfl
  | i :: l, h => by
    rw [List.forIn_cons]
    have h1 := h i (by simp) (none, ())
    simp only [Sem.run_bind, h1, Result.andThen_ok]
    cases hq : q i
    · simp [hq]
    · simp only [if_true, List.all_cons, hq, Bool.true_and]
      exact run_eqLoop q body l fun j hj s => h j (by simp [hj]) s

theorem equalIn_int (d : Nat) (a b : Int) (w : World) : (Op.equalIn (d + 1) 3 (.int .i64 a) (.int .i64 b)).run Try.prog w = .ok (a == b) w := by kernel_rfl
theorem size_int (w : World) : (sizeOf 3).run Try.prog w = .ok 1 w := by kernel_rfl
theorem size_A4 (w : World) : (sizeOf 24).run Try.prog w = .ok 4 w := by kernel_rfl

theorem part_A4 (v0 v1 v2 v3 : Value) (i : Nat) (hi : i < 4) (w : World) : (part 3 #[v0, v1, v2, v3] i).run Try.prog w = .ok ((#[v0, v1, v2, v3] : Array Value).getD i undef) w := by
  rcases (by omega : i = 0 ∨ i = 1 ∨ i = 2 ∨ i = 3) with rfl | rfl | rfl | rfl <;> kernel_rfl

theorem equalIn_A4 (d : Nat) (a b : Nat → Int) (w : World) : (Op.equalIn (d + 2) 24 (.agg #[.int .i64 (a 0), .int .i64 (a 1), .int .i64 (a 2), .int .i64 (a 3)]) (.agg #[.int .i64 (b 0), .int .i64 (b 1), .int .i64 (b 2), .int .i64 (b 3)])).run Try.prog w = .ok (allEq a b 4) w := by
  have u := run_underlying (P := Try.prog) Try.underlying24
  have ea : ∀ i, i < 4 → (part 3 #[.int .i64 (a 0), .int .i64 (a 1), .int .i64 (a 2), .int .i64 (a 3)] i).run Try.prog w = .ok (.int .i64 (a i)) w := fun i hi => by
    rcases (by omega : i = 0 ∨ i = 1 ∨ i = 2 ∨ i = 3) with rfl | rfl | rfl | rfl <;> kernel_rfl
  have eb : ∀ i, i < 4 → (part 3 #[.int .i64 (b 0), .int .i64 (b 1), .int .i64 (b 2), .int .i64 (b 3)] i).run Try.prog w = .ok (.int .i64 (b i)) w := fun i hi => by
    rcases (by omega : i = 0 ∨ i = 1 ∨ i = 2 ∨ i = 3) with rfl | rfl | rfl | rfl <;> kernel_rfl
  rw [Op.equalIn]
  simp [u]
  rw [run_eqLoop (fun i => a i == b i) _ (List.range' 0 4) (fun i hi s => by
    have hi4 : i < 4 := by simpa [List.mem_range'] using hi
    simp only [Sem.run_bind, ea i hi4, eb i hi4, Result.andThen_ok, equalIn_int]
    cases a i == b i <;> rfl)]
  have e : (List.range' 0 4).all (fun i => a i == b i) = allEq a b 4 := by
    have : List.range' 0 4 = [0, 1, 2, 3] := rfl
    rw [this]
    rw [Bool.eq_iff_iff]
    simp [allEq_succ, allEq_zero, and_assoc]
  rw [e]
  cases allEq a b 4 <;> rfl

theorem run_eql_A4 (a b : Nat → Int) (w : World) : (binOp .eql 24 (.agg #[.int .i64 (a 0), .int .i64 (a 1), .int .i64 (a 2), .int .i64 (a 3)]) (.agg #[.int .i64 (b 0), .int .i64 (b 1), .int .i64 (b 2), .int .i64 (b 3)])).run Try.prog w = .ok (.bool (allEq a b 4)) w := by
  simp only [binOp, Op.equal, Op.maxDepth]
  simp [equalIn_A4]

end Go.Proofs.Ytegdnfmhhigjfaa
