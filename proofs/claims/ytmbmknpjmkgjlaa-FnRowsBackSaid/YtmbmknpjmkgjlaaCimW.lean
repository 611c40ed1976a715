/-
  Words: how many rows have a row before them.
-/
import Derived.Test.YtmbmknpjmkgjlaaImg
namespace Go.Proofs.Ytmbmknpjmkgjlaa
open Go.RowKit

/-- Row n of those whose numbers are below b. -/
def rN (b3 b2 b : Int) (n : Nat) : Nat → Int := fun i => if i = 0 then (n : Int) / b3 else if i = 1 then (n : Int) / b2 % b else if i = 2 then (n : Int) / b % b else (n : Int) % b
def cntI (R : Nat → Nat → Int) : Nat → Nat
  | 0 => 0
  | n + 1 => cntI R n + if 0 < (rbL (R n)).length then 1 else 0
theorem cntI_le (R : Nat → Nat → Int) : ∀ n, cntI R n ≤ n
  | 0 => Nat.le_refl _
  | n + 1 => by
    have := cntI_le R n
    simp only [cntI]
    split <;> omega
def cimN (z : Int) : Int := if z = 0 then cntI (rN 1 1 1) 1 else if z = 1 then cntI (rN 8 4 2) 16 else if z = 2 then cntI (rN 27 9 3) 81 else if z = 3 then cntI (rN 64 16 4) 256 else if z = 4 then cntI (rN 125 25 5) 625 else if z = 5 then cntI (rN 216 36 6) 1296 else cntI (rN 343 49 7) 2401
theorem rN_in {b3 b2 b : Int} {n : Nat} (h3 : 0 < b3) (hb : 0 < b ∧ b ≤ 7) (hn : (n : Int) < b3 * b) : ∀ i, i < 4 → 0 ≤ rN b3 b2 b n i ∧ rN b3 b2 b n i ≤ 17 := by
  have h0 : (0 : Int) ≤ (n : Int) / b3 := Int.ediv_nonneg (by omega) (by omega)
  have h1 : (n : Int) / b3 < b := Int.ediv_lt_of_lt_mul h3 (by rw [Int.mul_comm]; exact hn)
  have m1 := fun x : Int => Int.emod_nonneg x (show b ≠ 0 by omega)
  have m2 := fun x : Int => Int.emod_lt_of_pos x hb.1
  intro i hi
  rcases p4 hi with rfl | rfl | rfl | rfl
  · show 0 ≤ (n : Int) / b3 ∧ (n : Int) / b3 ≤ 17; omega
  · show 0 ≤ (n : Int) / b2 % b ∧ (n : Int) / b2 % b ≤ 17
    have := m1 ((n : Int) / b2); have := m2 ((n : Int) / b2); omega
  · show 0 ≤ (n : Int) / b % b ∧ (n : Int) / b % b ≤ 17
    have := m1 ((n : Int) / b); have := m2 ((n : Int) / b); omega
  · show 0 ≤ (n : Int) % b ∧ (n : Int) % b ≤ 17
    have := m1 (n : Int); have := m2 (n : Int); omega
theorem rb_not {r : Nat → Int} (hr : ∀ i, i < 4 → 0 ≤ r i ∧ r i ≤ 17) (h : flB r = false) : rbL r = [] := by
  rw [← flI_eq hr, flP_flI hr] at h
  have hf : ¬ flP r := of_decide_eq_false h
  unfold rbL
  rw [rfL_none hr hf]
  rfl
def setR (w : World) (B : Nat) (f : Nat → Int) : World := w.setCells B 0 [.int .i64 (f 0), .int .i64 (f 1), .int .i64 (f 2), .int .i64 (f 3)]
theorem setR_only (w : World) (B : Nat) (f : Nat → Int) : Only B w (setR w B f) := only_setCells _ _ _ _
theorem Has.setR {w : World} {B : Nat} {c : Nat → Value} (h : Has w B 4 c) (f : Nat → Int) : Has (setR w B f) B 4 (fun o => .int .i64 (f o)) :=
  (h.sets (c4 f) (by simp [c4])).congr fun j hj => by
    rw [if_pos (by simp [c4]; omega)]
    rcases p4 hj with rfl | rfl | rfl | rfl <;> rfl
theorem wp_store_RwF {op : Oper} {a : Act} {w : World} {K : Act → World → Prop} {Q : Exit → Act → World → Prop} (x y : Operand) (ho : op.op = .store 22 x y)
    (b : Nat) (f : Nat → Int) (hx : a.eval x = .pointer (some ⟨b, 0, none⟩)) (hy : a.eval y = .agg #[.int .i64 (f 0), .int .i64 (f 1), .int .i64 (f 2), .int .i64 (f 3)]) (hd : op.dst = none) {c : Nat → Value} (hH : Has w b 4 c)
    (h : ∀ w2, Only b w w2 → Has w2 b 4 (fun o => .int .i64 (f o)) → K a w2) : op.wp Try.prog a w K Q :=
  wp_store_mid 22 x y ho b 0 #[.int .i64 (f 0), .int .i64 (f 1), .int .i64 (f 2), .int .i64 (f 3)] hx hy (hH.there 4 (by omega)) info_Rw (by simp [Value.oneCell'])
    (by rw [hd]; exact h _ (setR_only w b f) (hH.setR f))

end Go.Proofs.Ytmbmknpjmkgjlaa
