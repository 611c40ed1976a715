/-
  Words for CountTiles.
-/
import Derived.Test.YtjnmdhnckmmdnaaCellLoop
import Derived.Test.YtjnmdhnckmmdnaaManyMath
import Derived.Test.YtjnmdhnckmmdnaaBoard2
import Derived.Test.YtjnmdhnckmmdnaaDir
import Derived.Test.YtjnmdhnckmmdnaaTkWords
namespace Go.Proofs.Ytjnmdhnckmmdnaa
open Go.RowKit

theorem e18 {o : Nat} (h : o < 18) : o = 0 ∨ o = 1 ∨ o = 2 ∨ o = 3 ∨ o = 4 ∨ o = 5 ∨ o = 6 ∨ o = 7 ∨ o = 8 ∨ o = 9 ∨ o = 10 ∨ o = 11 ∨ o = 12 ∨ o = 13 ∨ o = 14 ∨ o = 15 ∨ o = 16 ∨ o = 17 := by omega
theorem load_A18F {ops : Array Oper} {rest : List Oper} {op : Oper} {a : Act} {w : World} {Q : Exit → Act → World → Prop} (hgd : op.guard = none) (x : Operand) (ho : op.op = .load 31 x)
    (b : Nat) (hx : a.eval x = .pointer (some ⟨b, 0, none⟩)) {f : Nat → Int} (hH : Has w b 18 (fun o => .int .i64 (f o)))
    (h : wpList Try.prog ops Q rest (a.put op.dst (.agg #[.int .i64 (f 0), .int .i64 (f 1), .int .i64 (f 2), .int .i64 (f 3), .int .i64 (f 4), .int .i64 (f 5), .int .i64 (f 6), .int .i64 (f 7), .int .i64 (f 8), .int .i64 (f 9), .int .i64 (f 10), .int .i64 (f 11), .int .i64 (f 12), .int .i64 (f 13), .int .i64 (f 14), .int .i64 (f 15), .int .i64 (f 16), .int .i64 (f 17)])) w) : wpList Try.prog ops Q (op :: rest) a w :=
  wpList_load_mid hgd 31 x ho b 0 hx [Value.int .i64 (f 0), Value.int .i64 (f 1), Value.int .i64 (f 2), Value.int .i64 (f 3), Value.int .i64 (f 4), Value.int .i64 (f 5), Value.int .i64 (f 6), Value.int .i64 (f 7), Value.int .i64 (f 8), Value.int .i64 (f 9), Value.int .i64 (f 10), Value.int .i64 (f 11), Value.int .i64 (f 12), Value.int .i64 (f 13), Value.int .i64 (f 14), Value.int .i64 (f 15), Value.int .i64 (f 16), Value.int .i64 (f 17)] _ (hH.range 18 (by omega)) Try.underlying31 rfl (by kernel_rfl) h
theorem store_A18F {ops : Array Oper} {rest : List Oper} {op : Oper} {a : Act} {w : World} {Q : Exit → Act → World → Prop} (hgd : op.guard = none) (x y : Operand) (ho : op.op = .store 31 x y)
    (b : Nat) (f : Nat → Int) (hx : a.eval x = .pointer (some ⟨b, 0, none⟩)) (hy : a.eval y = .agg #[.int .i64 (f 0), .int .i64 (f 1), .int .i64 (f 2), .int .i64 (f 3), .int .i64 (f 4), .int .i64 (f 5), .int .i64 (f 6), .int .i64 (f 7), .int .i64 (f 8), .int .i64 (f 9), .int .i64 (f 10), .int .i64 (f 11), .int .i64 (f 12), .int .i64 (f 13), .int .i64 (f 14), .int .i64 (f 15), .int .i64 (f 16), .int .i64 (f 17)]) {c : Nat → Value} (hH : Has w b 18 c)
    (h : ∀ w2, Only b w w2 → Has w2 b 18 (fun j => .int .i64 (f j)) → wpList Try.prog ops Q rest (a.put op.dst undef) w2) : wpList Try.prog ops Q (op :: rest) a w :=
  wpList_store_mid hgd 31 x y ho b 0 #[Value.int .i64 (f 0), Value.int .i64 (f 1), Value.int .i64 (f 2), Value.int .i64 (f 3), Value.int .i64 (f 4), Value.int .i64 (f 5), Value.int .i64 (f 6), Value.int .i64 (f 7), Value.int .i64 (f 8), Value.int .i64 (f 9), Value.int .i64 (f 10), Value.int .i64 (f 11), Value.int .i64 (f 12), Value.int .i64 (f 13), Value.int .i64 (f 14), Value.int .i64 (f 15), Value.int .i64 (f 16), Value.int .i64 (f 17)] hx hy (hH.there 18 (by simp)) (by kernel_rfl) (by simp [Value.oneCell'])
    (h _ (only_setCells _ _ _ _) ((hH.sets [Value.int .i64 (f 0), Value.int .i64 (f 1), Value.int .i64 (f 2), Value.int .i64 (f 3), Value.int .i64 (f 4), Value.int .i64 (f 5), Value.int .i64 (f 6), Value.int .i64 (f 7), Value.int .i64 (f 8), Value.int .i64 (f 9), Value.int .i64 (f 10), Value.int .i64 (f 11), Value.int .i64 (f 12), Value.int .i64 (f 13), Value.int .i64 (f 14), Value.int .i64 (f 15), Value.int .i64 (f 16), Value.int .i64 (f 17)] (by simp)).congr fun o ho => by
      rcases e18 ho with rfl | rfl | rfl | rfl | rfl | rfl | rfl | rfl | rfl | rfl | rfl | rfl | rfl | rfl | rfl | rfl | rfl | rfl <;> rfl))
theorem loadVar_A18 {w : World} {b : Nat} {f : Nat → Int} (hH : Has w b 18 (fun o => .int .i64 (f o))) : (loadVar 31 ⟨b, 0, none⟩).run Try.prog w = .ok (.agg #[.int .i64 (f 0), .int .i64 (f 1), .int .i64 (f 2), .int .i64 (f 3), .int .i64 (f 4), .int .i64 (f 5), .int .i64 (f 6), .int .i64 (f 7), .int .i64 (f 8), .int .i64 (f 9), .int .i64 (f 10), .int .i64 (f 11), .int .i64 (f 12), .int .i64 (f 13), .int .i64 (f 14), .int .i64 (f 15), .int .i64 (f 16), .int .i64 (f 17)]) w :=
  run_loadVar_mid w b 0 31 [Value.int .i64 (f 0), Value.int .i64 (f 1), Value.int .i64 (f 2), Value.int .i64 (f 3), Value.int .i64 (f 4), Value.int .i64 (f 5), Value.int .i64 (f 6), Value.int .i64 (f 7), Value.int .i64 (f 8), Value.int .i64 (f 9), Value.int .i64 (f 10), Value.int .i64 (f 11), Value.int .i64 (f 12), Value.int .i64 (f 13), Value.int .i64 (f 14), Value.int .i64 (f 15), Value.int .i64 (f 16), Value.int .i64 (f 17)] _ (hH.range 18 (by omega) (by simp [List.range_succ])) Try.underlying31 rfl (by kernel_rfl)

def ctF (b : Nat → Int) (n : Nat) : Nat → Int := fun t => ctT b n t
theorem ctF_zero (b : Nat → Int) (t : Nat) : ctF b 0 t = 0 := by simp [ctF, ctT]
theorem ctF_succ {b : Nat → Int} {n tn : Nat} (h : b n = (tn : Int)) (t : Nat) : (if t = tn then Value.int .i64 (ctF b n tn + 1) else .int .i64 (ctF b n t)) = .int .i64 (ctF b (n + 1) t) := by
  unfold ctF
  rw [ctT_succ, h]
  by_cases e : t = tn
  · subst e; simp
  · rw [if_neg e, if_neg (by omega)]; simp
/-- The counts of all tiles, none where the board is refused. -/
def ctX (b : Nat → Int) : Nat → Int := fun t => zr (bdB b) (ctF b 16 t)

theorem load_cell {ops : Array Oper} {rest : List Oper} {op : Oper} {a : Act} {w : World} {Q : Exit → Act → World → Prop} (hgd : op.guard = none) (x : Operand) (ho : op.op = .load 3 x)
    (b o : Nat) (hx : a.eval x = .pointer (some ⟨b, o, none⟩)) {v : Value} (hc : w.cell? ⟨b, o, none⟩ = some v)
    (h : wpList Try.prog ops Q rest (a.put op.dst v) w) : wpList Try.prog ops Q (op :: rest) a w := by
  refine wpList_plain hgd fun K hK => ?_
  have hr : (Instr.loadAt 3 (.pointer (some ⟨b, o, none⟩))).run Try.prog w = .ok v w := by
    simp [Instr.loadAt, Instr.sureAddr, loadVar, isAgg, run_underlying Try.underlying3, hc, go_sem]
  unfold Oper.wp execOp
  simp only [ho, hx, Sem.run_bind, hr]
  exact hK _ _ h
theorem ld_k {w : World} {B k : Nat} {x : Value} {c : Nat → Value} (h : Has w B 16 (fun o => if o = k then x else c o)) (hk : k < 16) : w.cell? ⟨B, k, none⟩ = some x := by
  rw [h.1 k hk]; simp

theorem load_A18Z {ops : Array Oper} {rest : List Oper} {op : Oper} {a : Act} {w : World} {Q : Exit → Act → World → Prop} (hgd : op.guard = none) (x : Operand) (ho : op.op = .load 31 x)
    (b : Nat) (hx : a.eval x = .pointer (some ⟨b, 0, none⟩)) (hH : Has w b 18 (fun _ => .int .i64 0))
    (h : wpList Try.prog ops Q rest (a.put op.dst (.agg #[.int .i64 0, .int .i64 0, .int .i64 0, .int .i64 0, .int .i64 0, .int .i64 0, .int .i64 0, .int .i64 0, .int .i64 0, .int .i64 0, .int .i64 0, .int .i64 0, .int .i64 0, .int .i64 0, .int .i64 0, .int .i64 0, .int .i64 0, .int .i64 0])) w) : wpList Try.prog ops Q (op :: rest) a w :=
  load_A18F (f := fun _ => 0) hgd x ho b hx hH h
theorem store_A18Z {ops : Array Oper} {rest : List Oper} {op : Oper} {a : Act} {w : World} {Q : Exit → Act → World → Prop} (hgd : op.guard = none) (x y : Operand) (ho : op.op = .store 31 x y)
    (b : Nat) (hx : a.eval x = .pointer (some ⟨b, 0, none⟩)) (hy : a.eval y = .agg #[.int .i64 0, .int .i64 0, .int .i64 0, .int .i64 0, .int .i64 0, .int .i64 0, .int .i64 0, .int .i64 0, .int .i64 0, .int .i64 0, .int .i64 0, .int .i64 0, .int .i64 0, .int .i64 0, .int .i64 0, .int .i64 0, .int .i64 0, .int .i64 0]) {c : Nat → Value} (hH : Has w b 18 c)
    (h : ∀ w2, Only b w w2 → Has w2 b 18 (fun _ => .int .i64 0) → wpList Try.prog ops Q rest (a.put op.dst undef) w2) : wpList Try.prog ops Q (op :: rest) a w :=
  store_A18F hgd x y ho b (fun _ => 0) hx hy hH h
theorem loadVar_A18Z {w : World} {b : Nat} (hH : Has w b 18 (fun _ => .int .i64 0)) : (loadVar 31 ⟨b, 0, none⟩).run Try.prog w = .ok (.agg #[.int .i64 0, .int .i64 0, .int .i64 0, .int .i64 0, .int .i64 0, .int .i64 0, .int .i64 0, .int .i64 0, .int .i64 0, .int .i64 0, .int .i64 0, .int .i64 0, .int .i64 0, .int .i64 0, .int .i64 0, .int .i64 0, .int .i64 0, .int .i64 0]) w := loadVar_A18 (f := fun _ => 0) hH

end Go.Proofs.Ytjnmdhnckmmdnaa
