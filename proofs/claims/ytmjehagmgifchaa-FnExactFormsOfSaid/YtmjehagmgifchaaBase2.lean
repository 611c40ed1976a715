/-
  Laws on loads and stores of whole boards and cells.
-/
import Derived.Test.YtmjehagmgifchaaBase
namespace Go.Proofs.Ytmjehagmgifchaa
open Go.RowKit

theorem load_A2 {ops : Array Oper} {rest : List Oper} {op : Oper} {a : Act} {w : World} {Q : Exit → Act → World → Prop} (hgd : op.guard = none) (x : Operand) (ho : op.op = .load 66 x)
    (b o : Nat) (hx : a.eval x = .pointer (some ⟨b, o, none⟩)) {n : Nat} {c : Nat → Value} (hH : Has w b n c) (hle : o + 2 ≤ n)
    (h : wpList Try.prog ops Q rest (a.put op.dst (.agg #[c o, c (o + 1)])) w) : wpList Try.prog ops Q (op :: rest) a w :=
  wpList_load_mid hgd 66 x ho b o hx [c o, c (o + 1)] _ (hH.range 2 hle) Try.underlying66 rfl (by kernel_rfl) h

theorem store_A2 {ops : Array Oper} {rest : List Oper} {op : Oper} {a : Act} {w : World} {Q : Exit → Act → World → Prop} (hgd : op.guard = none) (x y : Operand) (ho : op.op = .store 66 x y)
    (b o : Nat) (v0 v1 : Value) (hx : a.eval x = .pointer (some ⟨b, o, none⟩)) (hy : a.eval y = .agg #[v0, v1]) (h1 : ([v0, v1] : List Value).all (·.oneCell') = true) {n : Nat} {c : Nat → Value} (hH : Has w b n c) (hle : o + 2 ≤ n)
    (h : ∀ w2, Only b w w2 → Has w2 b n (fun j => if j = o then v0 else if j = o + 1 then v1 else c j) → wpList Try.prog ops Q rest (a.put op.dst undef) w2) : wpList Try.prog ops Q (op :: rest) a w :=
  wpList_store_mid hgd 66 x y ho b o #[v0, v1] hx hy (hH.there 2 hle) (by kernel_rfl) (by simpa using h1)
    (h _ (only_setCells _ _ _ _) (by
      refine (hH.sets [v0, v1] hle).congr fun j _ => ?_
      simp only [List.length_cons, List.length_nil]
      by_cases hj : o ≤ j ∧ j < o + 2
      · obtain ⟨i, rfl⟩ : ∃ i, j = o + i := ⟨j - o, by omega⟩
        have hi : i < 2 := by omega
        rw [if_pos (by omega)]
        rcases (by omega : i = 0 ∨ i = 1) with rfl | rfl <;> simp
      · rw [if_neg (by omega)]
        repeat rw [if_neg (by omega)]))

theorem loadVar_A2 {w : World} {b n : Nat} {c : Nat → Value} (hH : Has w b n c) (hle : 2 ≤ n) : (loadVar 66 ⟨b, 0, none⟩).run Try.prog w = .ok (.agg #[c 0, c 1]) w :=
  run_loadVar_mid w b 0 66 [c 0, c 1] _ (hH.range 2 (by omega) (by simp [List.range_succ])) Try.underlying66 rfl (by kernel_rfl)


theorem load_A44 {ops : Array Oper} {rest : List Oper} {op : Oper} {a : Act} {w : World} {Q : Exit → Act → World → Prop} (hgd : op.guard = none) (x : Operand) (ho : op.op = .load 23 x)
    (b o : Nat) (hx : a.eval x = .pointer (some ⟨b, o, none⟩)) {n : Nat} {c : Nat → Value} (hH : Has w b n c) (hle : o + 16 ≤ n)
    (h : wpList Try.prog ops Q rest (a.put op.dst (.agg #[c o, c (o + 1), c (o + 2), c (o + 3), c (o + 4), c (o + 5), c (o + 6), c (o + 7), c (o + 8), c (o + 9), c (o + 10), c (o + 11), c (o + 12), c (o + 13), c (o + 14), c (o + 15)])) w) : wpList Try.prog ops Q (op :: rest) a w :=
  wpList_load_mid hgd 23 x ho b o hx [c o, c (o + 1), c (o + 2), c (o + 3), c (o + 4), c (o + 5), c (o + 6), c (o + 7), c (o + 8), c (o + 9), c (o + 10), c (o + 11), c (o + 12), c (o + 13), c (o + 14), c (o + 15)] _ (hH.range 16 hle) Try.underlying23 rfl (by kernel_rfl) h

theorem store_A44 {ops : Array Oper} {rest : List Oper} {op : Oper} {a : Act} {w : World} {Q : Exit → Act → World → Prop} (hgd : op.guard = none) (x y : Operand) (ho : op.op = .store 23 x y)
    (b o : Nat) (v0 v1 v2 v3 v4 v5 v6 v7 v8 v9 v10 v11 v12 v13 v14 v15 : Value) (hx : a.eval x = .pointer (some ⟨b, o, none⟩)) (hy : a.eval y = .agg #[v0, v1, v2, v3, v4, v5, v6, v7, v8, v9, v10, v11, v12, v13, v14, v15]) (h1 : ([v0, v1, v2, v3, v4, v5, v6, v7, v8, v9, v10, v11, v12, v13, v14, v15] : List Value).all (·.oneCell') = true) {n : Nat} {c : Nat → Value} (hH : Has w b n c) (hle : o + 16 ≤ n)
    (h : ∀ w2, Only b w w2 → Has w2 b n (fun j => if j = o then v0 else if j = o + 1 then v1 else if j = o + 2 then v2 else if j = o + 3 then v3 else if j = o + 4 then v4 else if j = o + 5 then v5 else if j = o + 6 then v6 else if j = o + 7 then v7 else if j = o + 8 then v8 else if j = o + 9 then v9 else if j = o + 10 then v10 else if j = o + 11 then v11 else if j = o + 12 then v12 else if j = o + 13 then v13 else if j = o + 14 then v14 else if j = o + 15 then v15 else c j) → wpList Try.prog ops Q rest (a.put op.dst undef) w2) : wpList Try.prog ops Q (op :: rest) a w :=
  wpList_store_mid hgd 23 x y ho b o #[v0, v1, v2, v3, v4, v5, v6, v7, v8, v9, v10, v11, v12, v13, v14, v15] hx hy (hH.there 16 hle) (by kernel_rfl) (by simpa using h1)
    (h _ (only_setCells _ _ _ _) (by
      refine (hH.sets [v0, v1, v2, v3, v4, v5, v6, v7, v8, v9, v10, v11, v12, v13, v14, v15] hle).congr fun j _ => ?_
      simp only [List.length_cons, List.length_nil]
      by_cases hj : o ≤ j ∧ j < o + 16
      · obtain ⟨i, rfl⟩ : ∃ i, j = o + i := ⟨j - o, by omega⟩
        have hi : i < 16 := by omega
        rw [if_pos (by omega)]
        rcases (by omega : i = 0 ∨ i = 1 ∨ i = 2 ∨ i = 3 ∨ i = 4 ∨ i = 5 ∨ i = 6 ∨ i = 7 ∨ i = 8 ∨ i = 9 ∨ i = 10 ∨ i = 11 ∨ i = 12 ∨ i = 13 ∨ i = 14 ∨ i = 15) with rfl | rfl | rfl | rfl | rfl | rfl | rfl | rfl | rfl | rfl | rfl | rfl | rfl | rfl | rfl | rfl <;> simp
      · rw [if_neg (by omega)]
        repeat rw [if_neg (by omega)]))

theorem loadVar_A44 {w : World} {b n : Nat} {c : Nat → Value} (hH : Has w b n c) (hle : 16 ≤ n) : (loadVar 23 ⟨b, 0, none⟩).run Try.prog w = .ok (.agg #[c 0, c 1, c 2, c 3, c 4, c 5, c 6, c 7, c 8, c 9, c 10, c 11, c 12, c 13, c 14, c 15]) w :=
  run_loadVar_mid w b 0 23 [c 0, c 1, c 2, c 3, c 4, c 5, c 6, c 7, c 8, c 9, c 10, c 11, c 12, c 13, c 14, c 15] _ (hH.range 16 (by omega) (by simp [List.range_succ])) Try.underlying23 rfl (by kernel_rfl)


theorem load_Board {ops : Array Oper} {rest : List Oper} {op : Oper} {a : Act} {w : World} {Q : Exit → Act → World → Prop} (hgd : op.guard = none) (x : Operand) (ho : op.op = .load 25 x)
    (b o : Nat) (hx : a.eval x = .pointer (some ⟨b, o, none⟩)) {n : Nat} {c : Nat → Value} (hH : Has w b n c) (hle : o + 16 ≤ n)
    (h : wpList Try.prog ops Q rest (a.put op.dst (.agg #[c o, c (o + 1), c (o + 2), c (o + 3), c (o + 4), c (o + 5), c (o + 6), c (o + 7), c (o + 8), c (o + 9), c (o + 10), c (o + 11), c (o + 12), c (o + 13), c (o + 14), c (o + 15)])) w) : wpList Try.prog ops Q (op :: rest) a w :=
  wpList_load_mid hgd 25 x ho b o hx [c o, c (o + 1), c (o + 2), c (o + 3), c (o + 4), c (o + 5), c (o + 6), c (o + 7), c (o + 8), c (o + 9), c (o + 10), c (o + 11), c (o + 12), c (o + 13), c (o + 14), c (o + 15)] _ (hH.range 16 hle) Try.underlying25 rfl (by kernel_rfl) h

theorem store_Board {ops : Array Oper} {rest : List Oper} {op : Oper} {a : Act} {w : World} {Q : Exit → Act → World → Prop} (hgd : op.guard = none) (x y : Operand) (ho : op.op = .store 25 x y)
    (b o : Nat) (v0 v1 v2 v3 v4 v5 v6 v7 v8 v9 v10 v11 v12 v13 v14 v15 : Value) (hx : a.eval x = .pointer (some ⟨b, o, none⟩)) (hy : a.eval y = .agg #[v0, v1, v2, v3, v4, v5, v6, v7, v8, v9, v10, v11, v12, v13, v14, v15]) (h1 : ([v0, v1, v2, v3, v4, v5, v6, v7, v8, v9, v10, v11, v12, v13, v14, v15] : List Value).all (·.oneCell') = true) {n : Nat} {c : Nat → Value} (hH : Has w b n c) (hle : o + 16 ≤ n)
    (h : ∀ w2, Only b w w2 → Has w2 b n (fun j => if j = o then v0 else if j = o + 1 then v1 else if j = o + 2 then v2 else if j = o + 3 then v3 else if j = o + 4 then v4 else if j = o + 5 then v5 else if j = o + 6 then v6 else if j = o + 7 then v7 else if j = o + 8 then v8 else if j = o + 9 then v9 else if j = o + 10 then v10 else if j = o + 11 then v11 else if j = o + 12 then v12 else if j = o + 13 then v13 else if j = o + 14 then v14 else if j = o + 15 then v15 else c j) → wpList Try.prog ops Q rest (a.put op.dst undef) w2) : wpList Try.prog ops Q (op :: rest) a w :=
  wpList_store_mid hgd 25 x y ho b o #[v0, v1, v2, v3, v4, v5, v6, v7, v8, v9, v10, v11, v12, v13, v14, v15] hx hy (hH.there 16 hle) (by kernel_rfl) (by simpa using h1)
    (h _ (only_setCells _ _ _ _) (by
      refine (hH.sets [v0, v1, v2, v3, v4, v5, v6, v7, v8, v9, v10, v11, v12, v13, v14, v15] hle).congr fun j _ => ?_
      simp only [List.length_cons, List.length_nil]
      by_cases hj : o ≤ j ∧ j < o + 16
      · obtain ⟨i, rfl⟩ : ∃ i, j = o + i := ⟨j - o, by omega⟩
        have hi : i < 16 := by omega
        rw [if_pos (by omega)]
        rcases (by omega : i = 0 ∨ i = 1 ∨ i = 2 ∨ i = 3 ∨ i = 4 ∨ i = 5 ∨ i = 6 ∨ i = 7 ∨ i = 8 ∨ i = 9 ∨ i = 10 ∨ i = 11 ∨ i = 12 ∨ i = 13 ∨ i = 14 ∨ i = 15) with rfl | rfl | rfl | rfl | rfl | rfl | rfl | rfl | rfl | rfl | rfl | rfl | rfl | rfl | rfl | rfl <;> simp
      · rw [if_neg (by omega)]
        repeat rw [if_neg (by omega)]))

theorem loadVar_Board {w : World} {b n : Nat} {c : Nat → Value} (hH : Has w b n c) (hle : 16 ≤ n) : (loadVar 25 ⟨b, 0, none⟩).run Try.prog w = .ok (.agg #[c 0, c 1, c 2, c 3, c 4, c 5, c 6, c 7, c 8, c 9, c 10, c 11, c 12, c 13, c 14, c 15]) w :=
  run_loadVar_mid w b 0 25 [c 0, c 1, c 2, c 3, c 4, c 5, c 6, c 7, c 8, c 9, c 10, c 11, c 12, c 13, c 14, c 15] _ (hH.range 16 (by omega) (by simp [List.range_succ])) Try.underlying25 rfl (by kernel_rfl)


theorem load_LBoard {ops : Array Oper} {rest : List Oper} {op : Oper} {a : Act} {w : World} {Q : Exit → Act → World → Prop} (hgd : op.guard = none) (x : Operand) (ho : op.op = .load 30 x)
    (b o : Nat) (hx : a.eval x = .pointer (some ⟨b, o, none⟩)) {n : Nat} {c : Nat → Value} (hH : Has w b n c) (hle : o + 16 ≤ n)
    (h : wpList Try.prog ops Q rest (a.put op.dst (.agg #[c o, c (o + 1), c (o + 2), c (o + 3), c (o + 4), c (o + 5), c (o + 6), c (o + 7), c (o + 8), c (o + 9), c (o + 10), c (o + 11), c (o + 12), c (o + 13), c (o + 14), c (o + 15)])) w) : wpList Try.prog ops Q (op :: rest) a w :=
  wpList_load_mid hgd 30 x ho b o hx [c o, c (o + 1), c (o + 2), c (o + 3), c (o + 4), c (o + 5), c (o + 6), c (o + 7), c (o + 8), c (o + 9), c (o + 10), c (o + 11), c (o + 12), c (o + 13), c (o + 14), c (o + 15)] _ (hH.range 16 hle) Try.underlying30 rfl (by kernel_rfl) h

theorem store_LBoard {ops : Array Oper} {rest : List Oper} {op : Oper} {a : Act} {w : World} {Q : Exit → Act → World → Prop} (hgd : op.guard = none) (x y : Operand) (ho : op.op = .store 30 x y)
    (b o : Nat) (v0 v1 v2 v3 v4 v5 v6 v7 v8 v9 v10 v11 v12 v13 v14 v15 : Value) (hx : a.eval x = .pointer (some ⟨b, o, none⟩)) (hy : a.eval y = .agg #[v0, v1, v2, v3, v4, v5, v6, v7, v8, v9, v10, v11, v12, v13, v14, v15]) (h1 : ([v0, v1, v2, v3, v4, v5, v6, v7, v8, v9, v10, v11, v12, v13, v14, v15] : List Value).all (·.oneCell') = true) {n : Nat} {c : Nat → Value} (hH : Has w b n c) (hle : o + 16 ≤ n)
    (h : ∀ w2, Only b w w2 → Has w2 b n (fun j => if j = o then v0 else if j = o + 1 then v1 else if j = o + 2 then v2 else if j = o + 3 then v3 else if j = o + 4 then v4 else if j = o + 5 then v5 else if j = o + 6 then v6 else if j = o + 7 then v7 else if j = o + 8 then v8 else if j = o + 9 then v9 else if j = o + 10 then v10 else if j = o + 11 then v11 else if j = o + 12 then v12 else if j = o + 13 then v13 else if j = o + 14 then v14 else if j = o + 15 then v15 else c j) → wpList Try.prog ops Q rest (a.put op.dst undef) w2) : wpList Try.prog ops Q (op :: rest) a w :=
  wpList_store_mid hgd 30 x y ho b o #[v0, v1, v2, v3, v4, v5, v6, v7, v8, v9, v10, v11, v12, v13, v14, v15] hx hy (hH.there 16 hle) (by kernel_rfl) (by simpa using h1)
    (h _ (only_setCells _ _ _ _) (by
      refine (hH.sets [v0, v1, v2, v3, v4, v5, v6, v7, v8, v9, v10, v11, v12, v13, v14, v15] hle).congr fun j _ => ?_
      simp only [List.length_cons, List.length_nil]
      by_cases hj : o ≤ j ∧ j < o + 16
      · obtain ⟨i, rfl⟩ : ∃ i, j = o + i := ⟨j - o, by omega⟩
        have hi : i < 16 := by omega
        rw [if_pos (by omega)]
        rcases (by omega : i = 0 ∨ i = 1 ∨ i = 2 ∨ i = 3 ∨ i = 4 ∨ i = 5 ∨ i = 6 ∨ i = 7 ∨ i = 8 ∨ i = 9 ∨ i = 10 ∨ i = 11 ∨ i = 12 ∨ i = 13 ∨ i = 14 ∨ i = 15) with rfl | rfl | rfl | rfl | rfl | rfl | rfl | rfl | rfl | rfl | rfl | rfl | rfl | rfl | rfl | rfl <;> simp
      · rw [if_neg (by omega)]
        repeat rw [if_neg (by omega)]))

theorem loadVar_LBoard {w : World} {b n : Nat} {c : Nat → Value} (hH : Has w b n c) (hle : 16 ≤ n) : (loadVar 30 ⟨b, 0, none⟩).run Try.prog w = .ok (.agg #[c 0, c 1, c 2, c 3, c 4, c 5, c 6, c 7, c 8, c 9, c 10, c 11, c 12, c 13, c 14, c 15]) w :=
  run_loadVar_mid w b 0 30 [c 0, c 1, c 2, c 3, c 4, c 5, c 6, c 7, c 8, c 9, c 10, c 11, c 12, c 13, c 14, c 15] _ (hH.range 16 (by omega) (by simp [List.range_succ])) Try.underlying30 rfl (by kernel_rfl)


end Go.Proofs.Ytmjehagmgifchaa
