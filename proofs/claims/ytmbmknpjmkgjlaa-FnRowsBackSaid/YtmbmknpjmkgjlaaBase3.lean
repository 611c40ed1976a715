/-
  Laws on loads and stores of rows of truth values; results that lie in two cells.
-/
import Derived.Test.YtmbmknpjmkgjlaaBase
namespace Go.Proofs.Ytmbmknpjmkgjlaa
open Go.RowKit

theorem load_A4b {ops : Array Oper} {rest : List Oper} {op : Oper} {a : Act} {w : World} {Q : Exit → Act → World → Prop} (hgd : op.guard = none) (x : Operand) (ho : op.op = .load 49 x)
    (b o : Nat) (hx : a.eval x = .pointer (some ⟨b, o, none⟩)) {n : Nat} {c : Nat → Value} (hH : Has w b n c) (hle : o + 4 ≤ n)
    (h : wpList Try.prog ops Q rest (a.put op.dst (.agg #[c o, c (o + 1), c (o + 2), c (o + 3)])) w) : wpList Try.prog ops Q (op :: rest) a w :=
  wpList_load_mid hgd 49 x ho b o hx [c o, c (o + 1), c (o + 2), c (o + 3)] _ (hH.range 4 hle) Try.underlying49 rfl (by kernel_rfl) h

theorem store_A4b {ops : Array Oper} {rest : List Oper} {op : Oper} {a : Act} {w : World} {Q : Exit → Act → World → Prop} (hgd : op.guard = none) (x y : Operand) (ho : op.op = .store 49 x y)
    (b o : Nat) (v0 v1 v2 v3 : Value) (hx : a.eval x = .pointer (some ⟨b, o, none⟩)) (hy : a.eval y = .agg #[v0, v1, v2, v3]) (h1 : ([v0, v1, v2, v3] : List Value).all (·.oneCell') = true) {n : Nat} {c : Nat → Value} (hH : Has w b n c) (hle : o + 4 ≤ n)
    (h : ∀ w2, Only b w w2 → Has w2 b n (fun j => if j = o then v0 else if j = o + 1 then v1 else if j = o + 2 then v2 else if j = o + 3 then v3 else c j) → wpList Try.prog ops Q rest (a.put op.dst undef) w2) : wpList Try.prog ops Q (op :: rest) a w :=
  wpList_store_mid hgd 49 x y ho b o #[v0, v1, v2, v3] hx hy (hH.there 4 hle) (by kernel_rfl) (by simpa using h1)
    (h _ (only_setCells _ _ _ _) (by
      refine (hH.sets [v0, v1, v2, v3] hle).congr fun j _ => ?_
      simp only [List.length_cons, List.length_nil]
      by_cases hj : o ≤ j ∧ j < o + 4
      · obtain ⟨i, rfl⟩ : ∃ i, j = o + i := ⟨j - o, by omega⟩
        have hi : i < 4 := by omega
        rw [if_pos (by omega)]
        rcases (by omega : i = 0 ∨ i = 1 ∨ i = 2 ∨ i = 3) with rfl | rfl | rfl | rfl <;> simp
      · rw [if_neg (by omega)]
        repeat rw [if_neg (by omega)]))

theorem loadVar_A4b {w : World} {b n : Nat} {c : Nat → Value} (hH : Has w b n c) (hle : 4 ≤ n) : (loadVar 49 ⟨b, 0, none⟩).run Try.prog w = .ok (.agg #[c 0, c 1, c 2, c 3]) w :=
  run_loadVar_mid w b 0 49 [c 0, c 1, c 2, c 3] _ (hH.range 4 (by omega) (by simp [List.range_succ])) Try.underlying49 rfl (by kernel_rfl)


theorem results_ctc {P : Program} {fn : Func} {p q r : Tmp} {ty tz : TypeId} {tmps : Array Value} {w : World} {b b2 : Nat} {v u : Value} (h : fn.results = #[.cell p ty, .tmp q, .cell r tz]) (hp : tmps.getD p undef = .pointer (some ⟨b, 0, none⟩)) (hr : tmps.getD r undef = .pointer (some ⟨b2, 0, none⟩))
    (hl : (loadVar ty ⟨b, 0, none⟩).run P w = .ok v w) (hm : (loadVar tz ⟨b2, 0, none⟩).run P w = .ok u w) : (results fn tmps).run P w = .ok (.tuple #[v, tmps.getD q undef, u]) w := by
  have hp' : tmps[p]?.getD undef = .pointer (some ⟨b, 0, none⟩) := by simpa using hp
  have hr' : tmps[r]?.getD undef = .pointer (some ⟨b2, 0, none⟩) := by simpa using hr
  simp [results, h, hp', hr', asAddr, hl, hm]

end Go.Proofs.Ytmbmknpjmkgjlaa
