/-
  A store of a whole board, as the walk of a region that draws meets it: into a block just laid, or into one that is known.
-/
import Derived.Test.YtjnmdhnckmmdnaaBoard2
import Derived.Deep.WholeRow
import Derived.Deep.RegionHeld3
namespace Go.Proofs.Ytjnmdhnckmmdnaa
open Go.RowKit

theorem info_Bd : (Try.prog.info? 34).map (·.size) = some 16 := by kernel_rfl
theorem stc_new (w : World) (f : Nat → Int) : (storeCells ⟨w.heap.size, 0, none⟩ [.int .i64 (f 0), .int .i64 (f 1), .int .i64 (f 2), .int .i64 (f 3), .int .i64 (f 4), .int .i64 (f 5), .int .i64 (f 6), .int .i64 (f 7), .int .i64 (f 8), .int .i64 (f 9), .int .i64 (f 10), .int .i64 (f 11), .int .i64 (f 12), .int .i64 (f 13), .int .i64 (f 14), .int .i64 (f 15)] 0).run Try.prog (w.alloc (.cells #[.int .i64 0, .int .i64 0, .int .i64 0, .int .i64 0, .int .i64 0, .int .i64 0, .int .i64 0, .int .i64 0, .int .i64 0, .int .i64 0, .int .i64 0, .int .i64 0, .int .i64 0, .int .i64 0, .int .i64 0, .int .i64 0] 34)) = .ok () (w.alloc (.cells #[.int .i64 (f 0), .int .i64 (f 1), .int .i64 (f 2), .int .i64 (f 3), .int .i64 (f 4), .int .i64 (f 5), .int .i64 (f 6), .int .i64 (f 7), .int .i64 (f 8), .int .i64 (f 9), .int .i64 (f 10), .int .i64 (f 11), .int .i64 (f 12), .int .i64 (f 13), .int .i64 (f 14), .int .i64 (f 15)] 34)) :=
  run_storeCells_new (P := Try.prog) w 34 #[.int .i64 0, .int .i64 0, .int .i64 0, .int .i64 0, .int .i64 0, .int .i64 0, .int .i64 0, .int .i64 0, .int .i64 0, .int .i64 0, .int .i64 0, .int .i64 0, .int .i64 0, .int .i64 0, .int .i64 0, .int .i64 0] #[.int .i64 (f 0), .int .i64 (f 1), .int .i64 (f 2), .int .i64 (f 3), .int .i64 (f 4), .int .i64 (f 5), .int .i64 (f 6), .int .i64 (f 7), .int .i64 (f 8), .int .i64 (f 9), .int .i64 (f 10), .int .i64 (f 11), .int .i64 (f 12), .int .i64 (f 13), .int .i64 (f 14), .int .i64 (f 15)] info_Bd rfl (by simp [Value.oneCell'])

/-- The world behind a store of the board f into block B. -/
def setB (w : World) (B : Nat) (f : Nat → Int) : World := w.setCells B 0 [.int .i64 (f 0), .int .i64 (f 1), .int .i64 (f 2), .int .i64 (f 3), .int .i64 (f 4), .int .i64 (f 5), .int .i64 (f 6), .int .i64 (f 7), .int .i64 (f 8), .int .i64 (f 9), .int .i64 (f 10), .int .i64 (f 11), .int .i64 (f 12), .int .i64 (f 13), .int .i64 (f 14), .int .i64 (f 15)]
theorem stc_has {w : World} {B : Nat} {c : Nat → Value} (h : Has w B 16 c) (f : Nat → Int) : (storeCells ⟨B, 0, none⟩ [.int .i64 (f 0), .int .i64 (f 1), .int .i64 (f 2), .int .i64 (f 3), .int .i64 (f 4), .int .i64 (f 5), .int .i64 (f 6), .int .i64 (f 7), .int .i64 (f 8), .int .i64 (f 9), .int .i64 (f 10), .int .i64 (f 11), .int .i64 (f 12), .int .i64 (f 13), .int .i64 (f 14), .int .i64 (f 15)] 0).run Try.prog w = .ok () (setB w B f) := by
  have hst := run_storeCells_cells (P := Try.prog) B 0 [.int .i64 (f 0), .int .i64 (f 1), .int .i64 (f 2), .int .i64 (f 3), .int .i64 (f 4), .int .i64 (f 5), .int .i64 (f 6), .int .i64 (f 7), .int .i64 (f 8), .int .i64 (f 9), .int .i64 (f 10), .int .i64 (f 11), .int .i64 (f 12), .int .i64 (f 13), .int .i64 (f 14), .int .i64 (f 15)] 0 w
    (fun j hj => by simp only [List.length_cons, List.length_nil] at hj; simp only [Nat.zero_add]; rw [h.1 j (by omega)]; rfl) (fun j _ => h.2.1 _) (by simp [Value.oneCell'])
  exact hst
theorem setB_only (w : World) (B : Nat) (f : Nat → Int) : Only B w (setB w B f) := only_setCells _ _ _ _
theorem Has.setB {w : World} {B : Nat} {c : Nat → Value} (h : Has w B 16 c) (f : Nat → Int) : Has (setB w B f) B 16 (fun o => .int .i64 (f o)) :=
  (h.sets [.int .i64 (f 0), .int .i64 (f 1), .int .i64 (f 2), .int .i64 (f 3), .int .i64 (f 4), .int .i64 (f 5), .int .i64 (f 6), .int .i64 (f 7), .int .i64 (f 8), .int .i64 (f 9), .int .i64 (f 10), .int .i64 (f 11), .int .i64 (f 12), .int .i64 (f 13), .int .i64 (f 14), .int .i64 (f 15)] (by simp)).congr fun o ho => by
    rcases (by omega : o = 0 ∨ o = 1 ∨ o = 2 ∨ o = 3 ∨ o = 4 ∨ o = 5 ∨ o = 6 ∨ o = 7 ∨ o = 8 ∨ o = 9 ∨ o = 10 ∨ o = 11 ∨ o = 12 ∨ o = 13 ∨ o = 14 ∨ o = 15) with rfl | rfl | rfl | rfl | rfl | rfl | rfl | rfl | rfl | rfl | rfl | rfl | rfl | rfl | rfl | rfl <;> rfl
theorem Has.setB_ne {w : World} {B B' n : Nat} {c : Nat → Value} (h : Has w B n c) (f : Nat → Int) (hne : B ≠ B') : Has (Go.Proofs.Ytjnmdhnckmmdnaa.setB w B' f) B n c := h.only (setB_only _ _ _) hne
theorem below_setB {w a : World} (h : Below w.heap.size w a) {B : Nat} (hp : w.heap.size ≤ B) (f : Nat → Int) : Below w.heap.size w (Go.Proofs.Ytjnmdhnckmmdnaa.setB a B f) := below_only h (setB_only _ _ _) hp

/-- A store of a whole board into a block that is known, as a step of a region that draws. -/
theorem wp_store_BoardF {op : Oper} {a : Act} {w : World} {K : Act → World → Prop} {Q : Exit → Act → World → Prop} (x y : Operand) (ho : op.op = .store 34 x y)
    (b : Nat) (f : Nat → Int) (hx : a.eval x = .pointer (some ⟨b, 0, none⟩)) (hy : a.eval y = .agg #[.int .i64 (f 0), .int .i64 (f 1), .int .i64 (f 2), .int .i64 (f 3), .int .i64 (f 4), .int .i64 (f 5), .int .i64 (f 6), .int .i64 (f 7), .int .i64 (f 8), .int .i64 (f 9), .int .i64 (f 10), .int .i64 (f 11), .int .i64 (f 12), .int .i64 (f 13), .int .i64 (f 14), .int .i64 (f 15)]) (hd : op.dst = none) {c : Nat → Value} (hH : Has w b 16 c)
    (h : ∀ w2, Only b w w2 → Has w2 b 16 (fun o => .int .i64 (f o)) → K a w2) : op.wp Try.prog a w K Q :=
  wp_store_mid 34 x y ho b 0 #[.int .i64 (f 0), .int .i64 (f 1), .int .i64 (f 2), .int .i64 (f 3), .int .i64 (f 4), .int .i64 (f 5), .int .i64 (f 6), .int .i64 (f 7), .int .i64 (f 8), .int .i64 (f 9), .int .i64 (f 10), .int .i64 (f 11), .int .i64 (f 12), .int .i64 (f 13), .int .i64 (f 14), .int .i64 (f 15)] hx hy (hH.there 16 (by omega)) info_Bd (by simp [Value.oneCell'])
    (by rw [hd]; exact h _ (setB_only w b f) (hH.setB f))
/-- 'wpAnyH_take' with the slot written out. -/
theorem take_d {P : Program} {ops : Array Oper} {Q : Exit → Act → World → Prop} {md : Region.Mode} {S : World → Prop} {i : Nat} {oi : Oper} (d : Option Tmp) {v : Value} {fuel : Nat} {listed : Array Bool} {a : Act} {w : World} (hi : ops[i]? = some oi) (hd : oi.dst = d)
    (hs : Region.noSelect ops = true) (hf : Region.free md ops listed i = true) (hr : (Region.ready md ops listed).contains i = true)
    (hQ : ∀ c a w, Q (.panic c) (a.put d v) w → Q (.panic c) a w) (hy : YieldsIf P ops S oi v a) (hS : S w)
    (h : wpAnyH P md ops Q S fuel (listed.setIfInBounds i true) (a.put d v) w) : wpAnyH P md ops Q S (fuel + 1) listed a w := by
  subst hd
  exact wpAnyH_take hi hs hf hr hQ hy hS h
/-- The cells of the board that a region loads. -/
def RB (B0 : Nat) (b : Nat → Int) (w' : World) : Prop := w'.rangeAt B0 0 [.int .i64 (b 0), .int .i64 (b 1), .int .i64 (b 2), .int .i64 (b 3), .int .i64 (b 4), .int .i64 (b 5), .int .i64 (b 6), .int .i64 (b 7), .int .i64 (b 8), .int .i64 (b 9), .int .i64 (b 10), .int .i64 (b 11), .int .i64 (b 12), .int .i64 (b 13), .int .i64 (b 14), .int .i64 (b 15)]
theorem rb_of {w' : World} {B0 : Nat} {b : Nat → Int} (h : Has w' B0 16 (fun o => .int .i64 (b o))) : RB B0 b w' := h.range 16 (by omega) (by simp [List.range_succ])
theorem RB.r {w' : World} {B0 : Nat} {b : Nat → Int} (h : RB B0 b w') : w'.rangeAt B0 0 [.int .i64 (b 0), .int .i64 (b 1), .int .i64 (b 2), .int .i64 (b 3), .int .i64 (b 4), .int .i64 (b 5), .int .i64 (b 6), .int .i64 (b 7), .int .i64 (b 8), .int .i64 (b 9), .int .i64 (b 10), .int .i64 (b 11), .int .i64 (b 12), .int .i64 (b 13), .int .i64 (b 14), .int .i64 (b 15)] := h
def R2 (B0 : Nat) (x y : Value) (w' : World) : Prop := w'.rangeAt B0 0 [x, y]
theorem R2.r {w' : World} {B0 : Nat} {x y : Value} (h : R2 B0 x y w') : w'.rangeAt B0 0 [x, y] := h
theorem r2_of {w' : World} {B0 : Nat} {x y : Value} (h : Has w' B0 2 (fun o => if o = 0 then x else y)) : R2 B0 x y w' := h.range 2 (by omega) (by simp [List.range_succ])

end Go.Proofs.Ytjnmdhnckmmdnaa
