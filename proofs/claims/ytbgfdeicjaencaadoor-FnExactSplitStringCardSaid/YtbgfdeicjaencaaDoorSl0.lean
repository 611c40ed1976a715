/-
  Words for slices that lie in blocks (the strings' seat).
-/
import Derived.Test.YtbgfdeicjaencaaDoorBase0
import Derived.OwnWalk
import Derived.Laws.OwnMore
import Derived.Maps.AppendAt
namespace Go.Proofs.YtbgfdeicjaencaaDoor
open Go.RowKit

/-- The slice at A of n elements, k cells in all: where k is not 0 it begins a block from B on that holds the cells c. -/
def Sl (w : World) (B : Nat) (A : Option Addr) (k : Nat) (c : Nat → Value) : Prop := 0 < k → ∃ g, A = some ⟨g, 0, none⟩ ∧ B ≤ g ∧ Has w g k c

theorem Has.below {W w2 : World} {B0 B n : Nat} {c : Nat → Value} (h : Has W B n c) (hb : Below B0 W w2) (hlt : B < B0) : Has w2 B n c :=
  ⟨fun o ho => (hb.cell (p := ⟨B, o, none⟩) hlt).trans (h.1 o ho), fun o => (hb.frozen (p := ⟨B, o, none⟩) hlt).trans (h.2.1 o), Nat.lt_of_lt_of_le h.2.2 hb.size⟩
theorem Has.grown {W w2 : World} {B n : Nat} {c : Nat → Value} {row : Option Nat} (h : Has W B n c) (hg : W.grownBy w2 row) (hne : row ≠ some B) : Has w2 B n c :=
  ⟨fun o ho => (World.cell?_of_block (a := ⟨B, o, none⟩) (hg.block B h.2.2 (Ne.symm hne))).trans (h.1 o ho), fun o => (World.frozen?_of_block (a := ⟨B, o, none⟩) (hg.block B h.2.2 (Ne.symm hne))).trans (h.2.1 o), Nat.lt_of_lt_of_le h.2.2 hg.size⟩
theorem Sl.call {w w2 : World} {B k : Nat} {A : Option Addr} {c : Nat → Value} (h : Sl w B A k c) (hb : Below w.heap.size w w2) : Sl w2 B A k c :=
  fun hk => let ⟨g, e, hB, hH⟩ := h hk; ⟨g, e, hB, hH.call hb⟩
theorem Sl.only {w w2 : World} {B B' k : Nat} {A : Option Addr} {c : Nat → Value} (h : Sl w B A k c) (hb : Only B' w w2) (hne : B' < B) : Sl w2 B A k c :=
  fun hk => let ⟨g, e, hB, hH⟩ := h hk; ⟨g, e, hB, hH.only hb (by omega)⟩
theorem Sl.alloc {w : World} {B k : Nat} {A : Option Addr} {c : Nat → Value} (h : Sl w B A k c) (o : Obj) : Sl (w.alloc o) B A k c :=
  fun hk => let ⟨g, e, hB, hH⟩ := h hk; ⟨g, e, hB, hH.alloc o⟩
theorem Sl.drewN {w : World} {B k : Nat} {A : Option Addr} {c : Nat → Value} (h : Sl w B A k c) (n : Nat) : Sl (w.drewN n) B A k c :=
  fun hk => let ⟨g, e, hB, hH⟩ := h hk; ⟨g, e, hB, hH.drewN n⟩
theorem Sl.mono {w : World} {B B' k : Nat} {A : Option Addr} {c : Nat → Value} (h : Sl w B A k c) (hB : B' ≤ B) : Sl w B' A k c :=
  fun hk => let ⟨g, e, h1, hH⟩ := h hk; ⟨g, e, Nat.le_trans hB h1, hH⟩
theorem Sl.congr {w : World} {B k : Nat} {A : Option Addr} {c d : Nat → Value} (h : Sl w B A k c) (e : ∀ o, o < k → c o = d o) : Sl w B A k d :=
  fun hk => let ⟨g, e1, hB, hH⟩ := h hk; ⟨g, e1, hB, hH.congr e⟩
theorem sl_zero (w : World) (B : Nat) (A : Option Addr) (c : Nat → Value) : Sl w B A 0 c := fun h => absurd h (Nat.lt_irrefl _)

/-- A row of the call's own reads as a slice. -/
theorem own_sl {w : World} {base e size n : Nat} {v : Value} {xs : List Value} (h : w.ownsRow base e size v n xs) : ∃ A cap, v = .slice A n cap ∧ n ≤ cap ∧ Sl w base A (n * size) (fun o => xs.getD o undef) := by
  have hlen := h.1
  rcases h.2 with ⟨rfl, rfl⟩ | ⟨g, cap, cur, rfl, hg, hh, hnc, _, _, _⟩
  · exact ⟨none, 0, rfl, Nat.le_refl _, by rw [Nat.zero_mul]; exact sl_zero _ _ _ _⟩
  · refine ⟨_, _, rfl, hnc, fun _ => ⟨g, rfl, hg, ⟨fun o ho => ?_, fun o => h.frozenAt o, (Array.getElem?_eq_some_iff.1 hh).1⟩⟩⟩
    rw [h.cellAt o ho]
    have hlt : o < xs.length := by omega
    simp [hlt]

theorem own_call {w w2 : World} {base e size n : Nat} {v : Value} {xs : List Value} (h : w.ownsRow base e size v n xs) (hb : Below w.heap.size w w2) : w2.ownsRow base e size v n xs := by
  refine ⟨h.1, ?_⟩
  rcases h.2 with h2 | ⟨g, cap, cur, e1, hg, hh, r⟩
  · exact .inl h2
  · exact .inr ⟨g, cap, cur, e1, hg, (hb.block g (Array.getElem?_eq_some_iff.1 hh).1).trans hh, r⟩
theorem own_only {w w2 : World} {base e size n B : Nat} {v : Value} {xs : List Value} (h : w.ownsRow base e size v n xs) (hb : Only B w w2) (hB : B < base) : w2.ownsRow base e size v n xs := by
  refine ⟨h.1, ?_⟩
  rcases h.2 with h2 | ⟨g, cap, cur, e1, hg, hh, r⟩
  · exact .inl h2
  · exact .inr ⟨g, cap, cur, e1, hg, (hb.block g (by omega)).trans hh, r⟩
theorem own_drewN {w : World} {base e size n : Nat} {v : Value} {xs : List Value} (h : w.ownsRow base e size v n xs) (k : Nat) : (w.drewN k).ownsRow base e size v n xs := h

theorem below_only' {w a a' : World} {B0 B : Nat} (h : Below B0 w a) (k : Only B a a') (hB : B0 ≤ B) : Below B0 w a' :=
  h.trans ⟨k.os, k.tape, k.output, Nat.le_of_eq k.size.symm, fun i hi => k.block i (by omega)⟩

end Go.Proofs.YtbgfdeicjaencaaDoor
