/-
  Words for slices that the call owns.
-/
import Derived.Test.YtmjehagmgifchaaCells
namespace Go.Proofs.Ytmjehagmgifchaa
open Go.RowKit

theorem own_base {w : World} {base base' e size n : Nat} {v : Value} {xs : List Value} (h : w.ownsRow base e size v n xs) (hb : base' ≤ base) : w.ownsRow base' e size v n xs := by
  refine ⟨h.1, ?_⟩
  rcases h.2 with h2 | ⟨g, cap, cur, e1, hg, r⟩
  · exact .inl h2
  · exact .inr ⟨g, cap, cur, e1, Nat.le_trans hb hg, r⟩
theorem own_made1 {w w1 : World} {o : Obj} {T size : Nat} (hW : (w.alloc o).alloc (.cells #[] T) = w1) : w1.ownsRow (w.heap.size + 1) T size (.slice (some ⟨w.heap.size + 1, 0, none⟩) 0 0) 0 [] := by
  subst hW
  have h := World.ownsRow_made (w.alloc o) #[] 0 (base := w.heap.size + 1) (e := T) (size := size) (by simp) (Nat.zero_le _) (by simp)
  simpa using h
theorem own_at {w w1 : World} {o : Obj} {base e size n : Nat} {v : Value} {xs : List Value} (hW : w.alloc o = w1) (h : w.ownsRow base e size v n xs) : w1.ownsRow base e size v n xs := hW ▸ h.alloc o
theorem below_only' {w a a' : World} {B0 B : Nat} (h : Below B0 w a) (k : Only B a a') (hB : B0 ≤ B) : Below B0 w a' :=
  h.trans ⟨k.os, k.tape, k.output, Nat.le_of_eq k.size.symm, fun i hi => k.block i (by omega)⟩
theorem own_made0 {w w1 : World} {T size base : Nat} (hW : w.alloc (.cells #[] T) = w1) (hb : base ≤ w.heap.size) : w1.ownsRow base T size (.slice (some ⟨w.heap.size, 0, none⟩) 0 0) 0 [] := by
  subst hW
  exact World.ownsRow_made w #[] 0 hb (Nat.zero_le _) (by simp)
theorem own_draw {w : World} {base e size n : Nat} {v : Value} {xs : List Value} (h : w.ownsRow base e size v n xs) : w.drew.ownsRow base e size v n xs := h
theorem own_at_ne {w : World} {base e size n B : Nat} {v : Value} {xs : List Value} (h : w.ownsRow base e size v n xs) (hB : B < base) : v.ownBlock ≠ some B := by
  intro hk
  have := (h.lt B hk).1
  omega
theorem two_cells {wr : World} {T : TypeId} {x y : Value} : ∀ (j : Nat) (u : Value), ([x, y] : List Value)[j]? = some u → (wr.alloc (.cells #[x, y] T)).cell? ((⟨wr.heap.size, 0, none⟩ : Addr).add j) = some u := by
  intro j u hj
  have hn := Has.new' (w := wr) (cs := #[x, y]) (T := T) (n := 2) rfl
  rw [Addr.add_lit]
  rcases (by omega : j = 0 ∨ j = 1 ∨ 2 ≤ j) with rfl | rfl | h
  · simp at hj; subst hj; exact hn.1 0 (by omega)
  · simp at hj; subst hj; exact hn.1 1 (by omega)
  · rw [List.getElem?_eq_none (by simpa using h)] at hj; cases hj
theorem one_cell {wr : World} {T : TypeId} {x : Value} : ∀ (j : Nat) (u : Value), ([x] : List Value)[j]? = some u → (wr.alloc (.cells #[x] T)).cell? ((⟨wr.heap.size, 0, none⟩ : Addr).add j) = some u := by
  intro j u hj
  have hn := Has.new' (w := wr) (cs := #[x]) (T := T) (n := 1) rfl
  rw [Addr.add_lit]
  rcases (by omega : j = 0 ∨ 1 ≤ j) with rfl | h
  · simp at hj; subst hj; exact hn.1 0 (by omega)
  · rw [List.getElem?_eq_none (by simpa using h)] at hj; cases hj

end Go.Proofs.Ytmjehagmgifchaa
