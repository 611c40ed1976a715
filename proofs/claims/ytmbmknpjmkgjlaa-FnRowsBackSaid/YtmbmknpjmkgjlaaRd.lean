/-
  Contracts: the reader of choices, with all that it needs in one word.
-/
import Derived.Test.YtmbmknpjmkgjlaaTile
namespace Go.Proofs.Ytmbmknpjmkgjlaa
open Go.RowKit

/-- Block C holds a reader over the n bytes x at A, which it has not laid itself; it has read at most m. -/
def Rd (w : World) (C : Nat) (A : Option Addr) (n cp m : Nat) (x : Nat → Nat) : Prop := ArgB w A n x ∧ (∀ b off, 0 < n → A = some ⟨b, off, none⟩ → b ≠ C) ∧ Cur w C A n cp m
theorem Rd.call {w w2 : World} {C : Nat} {A : Option Addr} {n cp m : Nat} {x : Nat → Nat} (h : Rd w C A n cp m x) (hb : Below w.heap.size w w2) : Rd w2 C A n cp m x := ⟨h.1.call hb, h.2.1, h.2.2.call hb⟩
theorem Rd.next {w w2 : World} {C : Nat} {A : Option Addr} {n cp m m' : Nat} {x : Nat → Nat} (h : Rd w C A n cp m x) (hg : w.grownBy w2 (some C)) (hc : Cur w2 C A n cp m') : Rd w2 C A n cp m' x :=
  ⟨h.1.grown hg (fun b off h0 e he => h.2.1 b off h0 e (Option.some.inj he).symm), h.2.1, hc⟩
theorem Rd.lt {w : World} {C : Nat} {A : Option Addr} {n cp m : Nat} {x : Nat → Nat} (h : Rd w C A n cp m x) : C < w.heap.size := h.2.2.lt
theorem Rd.mono {w : World} {C : Nat} {A : Option Addr} {n cp m m' : Nat} {x : Nat → Nat} (h : Rd w C A n cp m x) (hm : m ≤ m') : Rd w C A n cp m' x := ⟨h.1, h.2.1, h.2.2.mono hm⟩
theorem Rd.only {w w2 : World} {C B : Nat} {A : Option Addr} {n cp m : Nat} {x : Nat → Nat} (h : Rd w C A n cp m x) (ho : Only B w w2) (hB : B ≠ C) (hA : ∀ b off, 0 < n → A = some ⟨b, off, none⟩ → b ≠ B) : Rd w2 C A n cp m x := by
  obtain ⟨a, s, h1, h2, hH⟩ := h.2.2
  exact ⟨h.1.grown (gr_only ho) (fun b off h0 e he => hA b off h0 e (Option.some.inj he).symm), h.2.1, a, s, h1, h2, hH.only ho (fun e => hB e.symm)⟩
/-- A reader just made. -/
theorem rd_new {w : World} {A : Option Addr} {n cp : Nat} {x : Nat → Nat} (h : ArgB w A n x) (T : TypeId) (m : Nat) : Rd (w.alloc (.cells #[.slice A n cp, .int .i64 0, .int .u64 0] T)) w.heap.size A n cp m x := by
  refine ⟨h.call (below_new (Below.refl _ _) _), fun b off h0 e he => ?_, 0, 0, Nat.zero_le _, ⟨by omega, by omega⟩, (Has.new' (n := 3) rfl).congr fun o ho => ?_⟩
  · obtain ⟨b', off', e', hlt, _⟩ := h h0
    rw [e'] at e
    cases e
    omega
  · rcases (by omega : o = 0 ∨ o = 1 ∨ o = 2) with rfl | rfl | rfl <;> rfl

theorem pick_rd {C : Nat} {A : Option Addr} {n cp m : Nat} {x : Nat → Nat} (k : Nat) (hn : n ≤ 65536) (hm : m ≤ 1000000) (hk : 2 ≤ k) (hk2 : k ≤ 200) {w : World} (h : Rd w C A n cp m x) :
    Calls Try.prog 66 #[.pointer (some ⟨C, 0, none⟩), .int .i64 (k : Int)] w fun e w' => ∃ v : Nat, e = .returned (.int .i64 (v : Int)) ∧ v < k ∧ Rd w' C A n cp (m + 1) x ∧ w.grownBy w' (some C) :=
  (pick_any C A n cp m k x hn hm hk hk2 w h.1 h.2.1 h.2.2).mono fun _ _ ⟨v, e, hv, hC, hG⟩ => ⟨v, e, hv, h.next hG hC, hG⟩
theorem among_rd {C : Nat} {A : Option Addr} {n cp m : Nat} {x : Nat → Nat} (L : List Int) (hn : n ≤ 65536) (hm : m ≤ 1000000) (hk : 2 ≤ L.length) (hk2 : L.length ≤ 200) {w : World} (h : Rd w C A n cp m x) (cs : Array Value) (T k : Nat) (hkL : k = L.length) (hcs : cs = (L.map fun t => Value.int .i64 t).toArray) :
    Calls Try.prog 65 #[.pointer (some ⟨C, 0, none⟩), .slice (some ⟨w.heap.size, 0, none⟩) k k] (w.alloc (.cells cs T)) fun e w' => ∃ t, t ∈ L ∧ e = .returned (.int .i64 t) ∧ Rd w' C A n cp (m + 1) x ∧ w.grownBy w' (some C) :=
  (among_new C A n cp m x hn hm L hk hk2 cs T k hkL hcs w h.1 h.2.1 h.2.2).mono fun _ _ ⟨t, ht, e, hC, hG⟩ => ⟨t, ht, e, h.next hG hC, hG⟩
theorem tile_rd {C : Nat} {A : Option Addr} {n cp m : Nat} {x : Nat → Nat} (hn : n ≤ 65536) (hm : m ≤ 1000000) {w : World} (h : Rd w C A n cp m x) :
    Calls Try.prog 89 #[.pointer (some ⟨C, 0, none⟩)] w fun e w' => ∃ t : Int, e = .returned (.int .i64 t) ∧ (0 ≤ t ∧ t ≤ 5) ∧ Rd w' C A n cp (m + 1) x ∧ w.grownBy w' (some C) :=
  (tile_any C A n cp m x hn hm w h.1 h.2.1 h.2.2).mono fun _ _ ⟨t, e, ht, hC, hG⟩ => ⟨t, e, ht, h.next hG hC, hG⟩

end Go.Proofs.Ytmbmknpjmkgjlaa
