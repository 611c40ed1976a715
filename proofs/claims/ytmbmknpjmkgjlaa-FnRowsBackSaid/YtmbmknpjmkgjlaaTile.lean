/-
  Contracts: the reader of choices: one of some numbers; a tile.
-/
import Derived.Test.YtmbmknpjmkgjlaaCur
namespace Go.Proofs.Ytmbmknpjmkgjlaa
open Go.RowKit

theorem among_new (C : Nat) (A : Option Addr) (n cp m : Nat) (x : Nat → Nat) (hn : n ≤ 65536) (hm : m ≤ 1000000) (L : List Int) (hk : 2 ≤ L.length) (hk2 : L.length ≤ 200) (cs : Array Value) (T k : Nat) (hkL : k = L.length) (hcs : cs = (L.map fun t => Value.int .i64 t).toArray) (w : World) (hA : ArgB w A n x) (hAC : ∀ b off, 0 < n → A = some ⟨b, off, none⟩ → b ≠ C) (hC : Cur w C A n cp m) :
    Calls Try.prog 65 #[.pointer (some ⟨C, 0, none⟩), .slice (some ⟨w.heap.size, 0, none⟩) k k] (w.alloc (.cells cs T)) fun e w' => ∃ t, t ∈ L ∧ e = .returned (.int .i64 t) ∧ Cur w' C A n cp (m + 1) ∧ w.grownBy w' (some C) := by
  subst hkL hcs
  have hb : Below w.heap.size w (w.alloc (.cells (L.map fun t => Value.int .i64 t).toArray T)) := below_new (Below.refl _ _) _
  have hL : Has (w.alloc (.cells (L.map fun t => Value.int .i64 t).toArray T)) w.heap.size L.length (fun o => .int .i64 (L.getD o 0)) :=
    (Has.new' (n := L.length) (by simp)).congr fun o ho => by simp [List.getD, ho]
  refine (among_any C A n cp m L.length w.heap.size L.length (fun o => L.getD o 0) x hn hm hk hk2 _ (hA.call hb) hAC (hC.call hb) hL (by have := hC.lt; omega)).mono ?_
  rintro e w' ⟨i, rfl, hi, hC2, hG⟩
  exact ⟨L.getD i 0, by simp [List.getD, hi], rfl, hC2, gr_trans (gr_below _ hb) hG⟩

set_option maxHeartbeats 4000000 in
set_option maxRecDepth 100000 in
theorem tile_any (C : Nat) (A : Option Addr) (n cp m : Nat) (x : Nat → Nat) (hn : n ≤ 65536) (hm : m ≤ 1000000) (w : World) (hA : ArgB w A n x) (hAC : ∀ b off, 0 < n → A = some ⟨b, off, none⟩ → b ≠ C) (hC : Cur w C A n cp m) :
    Calls Try.prog 89 #[.pointer (some ⟨C, 0, none⟩)] w fun e w' => ∃ t : Int, e = .returned (.int .i64 t) ∧ (0 ≤ t ∧ t ≤ 5) ∧ Cur w' C A n cp (m + 1) ∧ w.grownBy w' (some C) := by
  have HP := hide (fun cs T k hkL hcs => among_new C A n cp m x hn hm [1, 2, 0, 1, 3, 0, 2, 1, 4, 5, 0] (by decide) (by decide) cs T k hkL hcs w hA hAC hC)
  clear hA hAC hC
  go_enter Try.func89, Try.ntmps89
  go_wp2_with ((go_at_call 65); (refine (HP.out _ _ _ rfl rfl).mono ?_); rintro e w2 ⟨t, ht, rfl, hC2, hG2⟩)
  go_ret
  refine ⟨t, rfl, ?_, hC2, hG2⟩
  simp only [List.mem_cons, List.not_mem_nil, or_false] at ht
  omega

end Go.Proofs.Ytmbmknpjmkgjlaa
