/-
  Words: a world in which but one elder block may differ.
-/
import Derived.Test.YtmbmknpjmkgjlaaSl
namespace Go.Proofs.Ytmbmknpjmkgjlaa
open Go.RowKit

theorem gr_refl (w : World) (q : Option Nat) : w.grownBy w q := ⟨rfl, rfl, rfl, Nat.le_refl _, fun _ _ _ => rfl⟩
theorem gr_trans {w w1 w2 : World} {q : Option Nat} (h : w.grownBy w1 q) (h2 : w1.grownBy w2 q) : w.grownBy w2 q := by
  refine ⟨h2.os.trans h.os, h2.tape.trans h.tape, h2.output.trans h.output, Nat.le_trans h.size h2.size, fun k hk hne => ?_⟩
  rw [h2.block k (Nat.lt_of_lt_of_le hk h.size) hne, h.block k hk hne]
theorem gr_below {w w1 : World} (q : Option Nat) (h : Below w.heap.size w w1) : w.grownBy w1 q :=
  ⟨h.os, h.tape, h.output, h.size, fun k hk _ => h.block k hk⟩
theorem gr_only {w w1 : World} {B : Nat} (h : Only B w w1) : w.grownBy w1 (some B) :=
  ⟨h.os, h.tape, h.output, Nat.le_of_eq h.size.symm, fun k hk hne => h.block k (fun he => hne (by rw [he]))⟩
theorem gr_new {w : World} (q : Option Nat) (o : Obj) : w.grownBy (w.alloc o) q := gr_below q ((Below.refl _ _).alloc (Nat.le_refl _) o)
theorem gr_drewN {w : World} (q : Option Nat) (n : Nat) : w.grownBy (w.drewN n) q := ⟨rfl, rfl, rfl, Nat.le_refl _, fun _ _ _ => rfl⟩
theorem gr_drew {w : World} (q : Option Nat) : w.grownBy w.drew q := ⟨rfl, rfl, rfl, Nat.le_refl _, fun _ _ _ => rfl⟩
/-- The block is the call's own: nothing elder differs. -/
theorem below_gr {W w w1 : World} {B : Nat} (hB : Below W.heap.size W w) (h : w.grownBy w1 (some B)) (hW : W.heap.size ≤ B) : Below W.heap.size W w1 :=
  hB.grown h hB.size (fun q hq => by have := Option.some.inj hq; omega)

end Go.Proofs.Ytmbmknpjmkgjlaa
