/-
  Small words for this seat's texts: elements of array values.
-/
import Derived.Test.YtmbmknpjmkgjlaaBase0
namespace Go.Proofs.Ytmbmknpjmkgjlaa
open Go.RowKit

theorem load_A4 {ops : Array Oper} {rest : List Oper} {op : Oper} {a : Act} {w : World} {Q : Exit → Act → World → Prop} (hgd : op.guard = none) (x : Operand) (ho : op.op = .load 22 x)
    (b o : Nat) (hx : a.eval x = .pointer (some ⟨b, o, none⟩)) {n : Nat} {c : Nat → Value} (hH : Has w b n c) (hle : o + 4 ≤ n)
    (h : wpList Try.prog ops Q rest (a.put op.dst (.agg #[c o, c (o + 1), c (o + 2), c (o + 3)])) w) : wpList Try.prog ops Q (op :: rest) a w :=
  wpList_load_mid hgd 22 x ho b o hx [c o, c (o + 1), c (o + 2), c (o + 3)] _ (hH.range 4 hle) Try.underlying22 rfl (by kernel_rfl) h

theorem store_A4 {ops : Array Oper} {rest : List Oper} {op : Oper} {a : Act} {w : World} {Q : Exit → Act → World → Prop} (hgd : op.guard = none) (x y : Operand) (ho : op.op = .store 22 x y)
    (b o : Nat) (v0 v1 v2 v3 : Value) (hx : a.eval x = .pointer (some ⟨b, o, none⟩)) (hy : a.eval y = .agg #[v0, v1, v2, v3]) (h1 : ([v0, v1, v2, v3] : List Value).all (·.oneCell') = true) {n : Nat} {c : Nat → Value} (hH : Has w b n c) (hle : o + 4 ≤ n)
    (h : ∀ w2, Only b w w2 → Has w2 b n (fun j => if j = o then v0 else if j = o + 1 then v1 else if j = o + 2 then v2 else if j = o + 3 then v3 else c j) → wpList Try.prog ops Q rest (a.put op.dst undef) w2) : wpList Try.prog ops Q (op :: rest) a w :=
  wpList_store_mid hgd 22 x y ho b o #[v0, v1, v2, v3] hx hy (hH.there 4 hle) (by kernel_rfl) (by simpa using h1)
    (h _ (only_setCells _ _ _ _) (by
      refine (hH.sets [v0, v1, v2, v3] hle).congr fun j _ => ?_
      simp only [List.length_cons, List.length_nil]
      by_cases hj : o ≤ j ∧ j < o + 4
      · obtain ⟨i, rfl⟩ : ∃ i, j = o + i := ⟨j - o, by omega⟩
        have hi : i < 4 := by omega
        rw [if_pos (by omega)]
        rcases (by omega : i = 0 ∨ i = 1 ∨ i = 2 ∨ i = 3) with rfl | rfl | rfl | rfl <;> simp
      · rw [if_neg (by omega)]
        repeat rw [if_neg (by omega)]))

theorem loadVar_A4 {w : World} {b n : Nat} {c : Nat → Value} (hH : Has w b n c) (hle : 4 ≤ n) : (loadVar 22 ⟨b, 0, none⟩).run Try.prog w = .ok (.agg #[c 0, c 1, c 2, c 3]) w :=
  run_loadVar_mid w b 0 22 [c 0, c 1, c 2, c 3] _ (hH.range 4 (by omega) (by simp [List.range_succ])) Try.underlying22 rfl (by kernel_rfl)


theorem info_int : (Try.prog.info? 3).map (·.size) = some 1 := by kernel_rfl
theorem info_bool : (Try.prog.info? 4).map (·.size) = some 1 := by kernel_rfl

theorem store_int {ops : Array Oper} {rest : List Oper} {op : Oper} {a : Act} {w : World} {Q : Exit → Act → World → Prop} (hgd : op.guard = none) (x y : Operand) (ho : op.op = .store 3 x y)
    (b o : Nat) (v : Int) (hx : a.eval x = .pointer (some ⟨b, o, none⟩)) (hy : a.eval y = .int .i64 v) {n : Nat} {c : Nat → Value} (hH : Has w b n c) (hle : o < n)
    (h : ∀ w2, Only b w w2 → Has w2 b n (fun j => if j = o then .int .i64 v else c j) → wpList Try.prog ops Q rest (a.put op.dst undef) w2) : wpList Try.prog ops Q (op :: rest) a w :=
  store_one 3 info_int hgd x y ho b o _ hx hy rfl hH hle h
theorem store_bool {ops : Array Oper} {rest : List Oper} {op : Oper} {a : Act} {w : World} {Q : Exit → Act → World → Prop} (hgd : op.guard = none) (x y : Operand) (ho : op.op = .store 4 x y)
    (b o : Nat) (v : Bool) (hx : a.eval x = .pointer (some ⟨b, o, none⟩)) (hy : a.eval y = .bool v) {n : Nat} {c : Nat → Value} (hH : Has w b n c) (hle : o < n)
    (h : ∀ w2, Only b w w2 → Has w2 b n (fun j => if j = o then .bool v else c j) → wpList Try.prog ops Q rest (a.put op.dst undef) w2) : wpList Try.prog ops Q (op :: rest) a w :=
  store_one 4 info_bool hgd x y ho b o _ hx hy rfl hH hle h

/-- A load of one whole number out of a block that is known. -/
theorem load_int {ops : Array Oper} {rest : List Oper} {op : Oper} {a : Act} {w : World} {Q : Exit → Act → World → Prop} (hgd : op.guard = none) (x : Operand) (ho : op.op = .load 3 x)
    (b o : Nat) (hx : a.eval x = .pointer (some ⟨b, o, none⟩)) {n : Nat} {c : Nat → Value} (hH : Has w b n c) (hle : o < n)
    (h : wpList Try.prog ops Q rest (a.put op.dst (c o)) w) : wpList Try.prog ops Q (op :: rest) a w := by
  refine wpList_plain hgd fun K hK => ?_
  have hc := hH.1 o hle
  have hr : (Instr.loadAt 3 (.pointer (some ⟨b, o, none⟩))).run Try.prog w = .ok (c o) w := by
    simp [Instr.loadAt, Instr.sureAddr, loadVar, isAgg, run_underlying Try.underlying3, hc, go_sem]
  unfold Oper.wp execOp
  simp only [ho, hx, Sem.run_bind, hr]
  exact hK _ _ h

-- small numbers fit
theorem wrap_c0 : IntKind.i64.wrap 0 = 0 := by kernel_rfl
theorem wrap_c1 : IntKind.i64.wrap 1 = 1 := by kernel_rfl
theorem wrap_c2 : IntKind.i64.wrap 2 = 2 := by kernel_rfl
theorem wrap_c3 : IntKind.i64.wrap 3 = 3 := by kernel_rfl
theorem wrap_c4 : IntKind.i64.wrap 4 = 4 := by kernel_rfl
theorem wrap_c5 : IntKind.i64.wrap 5 = 5 := by kernel_rfl
theorem wrap_c6 : IntKind.i64.wrap 6 = 6 := by kernel_rfl
theorem wrap_c7 : IntKind.i64.wrap 7 = 7 := by kernel_rfl
theorem wrap_c8 : IntKind.i64.wrap 8 = 8 := by kernel_rfl
theorem wrap_c9 : IntKind.i64.wrap 9 = 9 := by kernel_rfl
theorem wrap_c10 : IntKind.i64.wrap 10 = 10 := by kernel_rfl
theorem wrap_c11 : IntKind.i64.wrap 11 = 11 := by kernel_rfl
theorem wrap_c12 : IntKind.i64.wrap 12 = 12 := by kernel_rfl
theorem wrap_c13 : IntKind.i64.wrap 13 = 13 := by kernel_rfl
theorem wrap_c14 : IntKind.i64.wrap 14 = 14 := by kernel_rfl
theorem wrap_c15 : IntKind.i64.wrap 15 = 15 := by kernel_rfl
theorem wrap_c16 : IntKind.i64.wrap 16 = 16 := by kernel_rfl
theorem wrap_c17 : IntKind.i64.wrap 17 = 17 := by kernel_rfl
theorem wrap_c18 : IntKind.i64.wrap 18 = 18 := by kernel_rfl
theorem wrap_c19 : IntKind.i64.wrap 19 = 19 := by kernel_rfl
theorem wrap_m1 : IntKind.i64.wrap (-1) = -1 := by kernel_rfl
attribute [go_sem] wrap_c0 wrap_c1 wrap_c2 wrap_c3 wrap_c4 wrap_c5 wrap_c6 wrap_c7 wrap_c8 wrap_c9 wrap_c10 wrap_c11 wrap_c12 wrap_c13 wrap_c14 wrap_c15 wrap_c16 wrap_c17 wrap_c18 wrap_c19 wrap_m1

-- an element of an array value
theorem index4_0 (v0 v1 v2 v3 : Value) (w : World) : (Instr.index 22 (.agg #[v0, v1, v2, v3]) (.int .i64 0)).run Try.prog w = .ok v0 w := by kernel_rfl
theorem index4_1 (v0 v1 v2 v3 : Value) (w : World) : (Instr.index 22 (.agg #[v0, v1, v2, v3]) (.int .i64 1)).run Try.prog w = .ok v1 w := by kernel_rfl
theorem index4_2 (v0 v1 v2 v3 : Value) (w : World) : (Instr.index 22 (.agg #[v0, v1, v2, v3]) (.int .i64 2)).run Try.prog w = .ok v2 w := by kernel_rfl
theorem index4_3 (v0 v1 v2 v3 : Value) (w : World) : (Instr.index 22 (.agg #[v0, v1, v2, v3]) (.int .i64 3)).run Try.prog w = .ok v3 w := by kernel_rfl
attribute [go_sem] index4_0 index4_1 index4_2 index4_3

end Go.Proofs.Ytmbmknpjmkgjlaa
