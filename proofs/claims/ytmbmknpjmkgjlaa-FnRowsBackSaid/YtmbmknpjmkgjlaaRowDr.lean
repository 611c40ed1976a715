/-
  Contracts: the draws of rows and numbers of rows.
-/
import Derived.Test.YtmbmknpjmkgjlaaRowD
namespace Go.Proofs.Ytmbmknpjmkgjlaa
open Go.RowKit

set_option maxHeartbeats 4000000 in
set_option maxRecDepth 100000 in
theorem drawIsRow_any (A : Option Addr) (n cp : Nat) (x : Nat → Nat) (hn : n ≤ 65536) (w : World) (hA : ArgB w A n x) :
    Calls Try.prog 50 #[.slice A n cp] w fun e w' => ∃ r : Nat → Int, e = .returned (.agg #[.int .i64 (r 0), .int .i64 (r 1), .int .i64 (r 2), .int .i64 (r 3)]) ∧ RI r ∧ Below w.heap.size w w' := by
  have HR := hide (fun w1 (hb : Below w.heap.size w w1) T => rd_new (hA.call hb) (cp := cp) T 0)
  clear hA
  go_enter Try.func50, Try.ntmps50
  go_upto_region 1 with (fail)
  generalize hW : World.alloc w _ = w1
  have hb : Below w.heap.size w w1 := by (rw [← hW]; exact below_new (Below.refl _ _) _)
  have i2 : Has w1 w.heap.size 4 (fun _ => .int .i64 0) := by
    rw [← hW]
    exact (Has.new' (n := 4) rfl).congr fun o ho => by rcases (by omega : o = 0 ∨ o = 1 ∨ o = 2 ∨ o = 3) with rfl | rfl | rfl | rfl <;> rfl
  have hz := i2.2.2
  have HX := hide (HR.out w1 hb)
  clear hW HR
  go_upto_region 2 with (fail)
  generalize hW : World.alloc w1 _ = w3
  have hR3 := by have h := HX.out 61; rw [hW] at h; exact h
  have hb3 : Below w1.heap.size w1 w3 := by (rw [← hW]; exact below_new (Below.refl _ _) _)
  have i23 := i2.call hb3
  have hb4 := below_go hb hb3
  have HX3 := hide hR3
  clear hW hR3
  go_wp2_with (first | (go_at_call 76; (with_reducible refine (row_rd hn (by omega) HX3.out).mono ?_); rintro e w2 ⟨r, rfl, hr, hR, hG⟩; have i2x := i23.grown hG (fun he => by have := Option.some.inj he; omega); have hB2 : Below w.heap.size w w2 := below_gr hb4 hG (Nat.le_of_lt hz)) | (refine store_A4R rfl _ _ rfl _ r rfl rfl i2x ?_; intro w9 ho9 hn9))
  exact bodyPost_ret (results_cell rfl rfl (loadVar_A4 hn9 (by omega))) rfl ⟨r, rfl, hr, below_only hB2 ho9 (Nat.le_refl _)⟩

set_option maxHeartbeats 4000000 in
set_option maxRecDepth 100000 in
theorem drawMostRowScore_any (A : Option Addr) (n cp : Nat) (x : Nat → Nat) (hn : n ≤ 65536) (w : World) (hA : ArgB w A n x) :
    Calls Try.prog 19 #[.slice A n cp] w fun e w' => ∃ r : Nat → Int, e = .returned (.agg #[.int .i64 (r 0), .int .i64 (r 1), .int .i64 (r 2), .int .i64 (r 3)]) ∧ RI r ∧ Below w.heap.size w w' := by
  have HR := hide (fun w1 (hb : Below w.heap.size w w1) => drawIsRow_any A n cp x hn w1 (hA.call hb))
  clear hA
  go_enter Try.func19, Try.ntmps19
  go_upto_region 1 with (fail)
  generalize hW : World.alloc w _ = w1
  have hb : Below w.heap.size w w1 := by (rw [← hW]; exact below_new (Below.refl _ _) _)
  have i2 : Has w1 w.heap.size 4 (fun _ => .int .i64 0) := by
    rw [← hW]
    exact (Has.new' (n := 4) rfl).congr fun o ho => by rcases (by omega : o = 0 ∨ o = 1 ∨ o = 2 ∨ o = 3) with rfl | rfl | rfl | rfl <;> rfl
  have HX := hide (HR.out w1 hb)
  clear hW HR
  go_wp2_with (first | (go_at_call 50; (with_reducible refine HX.out.mono ?_); rintro e w2 ⟨r, rfl, hr, hb2⟩; have i2x := i2.call hb2; have hB2 : Below w.heap.size w w2 := below_go hb hb2) | (refine store_A4R rfl _ _ rfl _ r rfl rfl i2x ?_; intro w9 ho9 hn9))
  exact bodyPost_ret (results_cell rfl rfl (loadVar_A4 hn9 (by omega))) rfl ⟨r, rfl, hr, below_only hB2 ho9 (Nat.le_refl _)⟩

set_option maxHeartbeats 4000000 in
set_option maxRecDepth 100000 in
theorem drawRowsBefore_any (A : Option Addr) (n cp : Nat) (x : Nat → Nat) (hn : n ≤ 65536) (w : World) (hA : ArgB w A n x) :
    Calls Try.prog 31 #[.slice A n cp] w fun e w' => ∃ r : Nat → Int, e = .returned (.agg #[.int .i64 (r 0), .int .i64 (r 1), .int .i64 (r 2), .int .i64 (r 3)]) ∧ RI r ∧ Below w.heap.size w w' := by
  have HR := hide (fun w1 (hb : Below w.heap.size w w1) => drawIsRow_any A n cp x hn w1 (hA.call hb))
  clear hA
  go_enter Try.func31, Try.ntmps31
  go_upto_region 1 with (fail)
  generalize hW : World.alloc w _ = w1
  have hb : Below w.heap.size w w1 := by (rw [← hW]; exact below_new (Below.refl _ _) _)
  have i2 : Has w1 w.heap.size 4 (fun _ => .int .i64 0) := by
    rw [← hW]
    exact (Has.new' (n := 4) rfl).congr fun o ho => by rcases (by omega : o = 0 ∨ o = 1 ∨ o = 2 ∨ o = 3) with rfl | rfl | rfl | rfl <;> rfl
  have HX := hide (HR.out w1 hb)
  clear hW HR
  go_wp2_with (first | (go_at_call 50; (with_reducible refine HX.out.mono ?_); rintro e w2 ⟨r, rfl, hr, hb2⟩; have i2x := i2.call hb2; have hB2 : Below w.heap.size w w2 := below_go hb hb2) | (refine store_A4R rfl _ _ rfl _ r rfl rfl i2x ?_; intro w9 ho9 hn9))
  exact bodyPost_ret (results_cell rfl rfl (loadVar_A4 hn9 (by omega))) rfl ⟨r, rfl, hr, below_only hB2 ho9 (Nat.le_refl _)⟩

set_option maxHeartbeats 4000000 in
set_option maxRecDepth 100000 in
theorem drawCountImages_any (A : Option Addr) (n cp : Nat) (x : Nat → Nat) (hn : n ≤ 65536) (w : World) (hA : ArgB w A n x) :
    Calls Try.prog 42 #[.slice A n cp] w fun e w' => ∃ z : Int, e = .returned (.int .i64 z) ∧ (-1 ≤ z ∧ z ≤ 7) ∧ Below w.heap.size w w' := by
  have HX := hide (fun T => rd_new (w := w) hA (cp := cp) T 0)
  clear hA
  go_enter Try.func42, Try.ntmps42
  go_upto_region 2 with (fail)
  generalize hW : World.alloc w _ = w1
  have hR0 := by have h := HX.out 61; rw [hW] at h; exact h
  have hb : Below w.heap.size w w1 := by (rw [← hW]; exact below_new (Below.refl _ _) _)
  clear hW HX
  go_wp2_with (first | (go_at_call 65; (refine (among_rd [2, 1, 3, 0, 4, 6, 7, -1] hn (by omega) (by decide) (by decide) hR0 _ _ _ rfl rfl).mono ?_); rintro e w2 ⟨z, hz, rfl, hR, hG⟩))
  go_ret
  refine ⟨z, rfl, ?_, below_gr hb hG (Nat.le_refl _)⟩
  simp only [List.mem_cons, List.not_mem_nil, or_false] at hz
  omega

set_option maxHeartbeats 4000000 in
set_option maxRecDepth 100000 in
theorem drawRowAt_any (A : Option Addr) (n cp : Nat) (x : Nat → Nat) (hn : n ≤ 65536) (w : World) (hA : ArgB w A n x) :
    Calls Try.prog 39 #[.slice A n cp] w fun e w' => ∃ z : Int, e = .returned (.int .i64 z) ∧ (-1 ≤ z ∧ z ≤ 200000) ∧ Below w.heap.size w w' := by
  have HX := hide (fun T => rd_new (w := w) hA (cp := cp) T 0)
  clear hA
  go_enter Try.func39, Try.ntmps39
  go_upto_region 2 with (fail)
  generalize hW : World.alloc w _ = w1
  have hR0 := by have h := HX.out 61; rw [hW] at h; exact h
  have hb : Below w.heap.size w w1 := by (rw [← hW]; exact below_new (Below.refl _ _) _)
  clear hW HX
  go_wp2_with (first | (go_at_call 65; (refine (among_rd [0, 1, 18, 324, 5832, 104975, 104976, -1, 17, 40000] hn (by omega) (by decide) (by decide) hR0 _ _ _ rfl rfl).mono ?_); rintro e w2 ⟨z, hz, rfl, hR, hG⟩; simp only [List.mem_cons, List.not_mem_nil, or_false] at hz; have hz1 : -1 ≤ z ∧ z ≤ 104976 := (by omega); clear hz) | (go_at_call 66; (refine (pick_rd 9 hn (by omega) (by decide) (by decide) hR).mono ?_); rintro e w3 ⟨v, rfl, hv, hR2, hG2⟩))
  go_ret
  exact ⟨z + v, rfl, by omega, below_gr (below_gr hb hG (Nat.le_refl _)) hG2 (Nat.le_refl _)⟩

end Go.Proofs.Ytmbmknpjmkgjlaa
