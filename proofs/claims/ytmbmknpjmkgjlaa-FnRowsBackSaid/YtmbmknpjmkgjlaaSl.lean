/-
  Words for slices that lie in blocks: a slice of n elements that begins a block; append; clear.
-/
import Derived.Test.YtmbmknpjmkgjlaaBase
import Derived.OwnWalk
import Derived.Laws.OwnMore
import Derived.Maps.AppendAt
namespace Go.Proofs.Ytmbmknpjmkgjlaa
open Go.RowKit

/-- The slice at A of n elements, k cells in all: where k is not 0 it begins a block from B on that holds the cells c. -/
def Sl (w : World) (B : Nat) (A : Option Addr) (k : Nat) (c : Nat → Value) : Prop := 0 < k → ∃ g, A = some ⟨g, 0, none⟩ ∧ B ≤ g ∧ Has w g k c

theorem Has.below {W w2 : World} {B0 B n : Nat} {c : Nat → Value} (h : Has W B n c) (hb : Below B0 W w2) (hlt : B < B0) : Has w2 B n c :=
  ⟨fun o ho => (hb.cell (p := ⟨B, o, none⟩) hlt).trans (h.1 o ho), fun o => (hb.frozen (p := ⟨B, o, none⟩) hlt).trans (h.2.1 o), Nat.lt_of_lt_of_le h.2.2 hb.size⟩
theorem Has.grown {W w2 : World} {B n : Nat} {c : Nat → Value} {row : Option Nat} (h : Has W B n c) (hg : W.grownBy w2 row) (hne : row ≠ some B) : Has w2 B n c :=
  ⟨fun o ho => (World.cell?_of_block (a := ⟨B, o, none⟩) (hg.block B h.2.2 (Ne.symm hne))).trans (h.1 o ho), fun o => (World.frozen?_of_block (a := ⟨B, o, none⟩) (hg.block B h.2.2 (Ne.symm hne))).trans (h.2.1 o), Nat.lt_of_lt_of_le h.2.2 hg.size⟩
theorem Sl.call {w w2 : World} {B k : Nat} {A : Option Addr} {c : Nat → Value} (h : Sl w B A k c) (hb : Below w.heap.size w w2) : Sl w2 B A k c :=
  fun hk => let ⟨g, e, hB, hH⟩ := h hk; ⟨g, e, hB, hH.call hb⟩
theorem Sl.only {w w2 : World} {B B' k : Nat} {A : Option Addr} {c : Nat → Value} (h : Sl w B A k c) (hb : Only B' w w2) (hne : B' < B) : Sl w2 B A k c :=
  fun hk => let ⟨g, e, hB, hH⟩ := h hk; ⟨g, e, hB, hH.only hb (by omega)⟩
theorem Sl.alloc {w : World} {B k : Nat} {A : Option Addr} {c : Nat → Value} (h : Sl w B A k c) (o : Obj) : Sl (w.alloc o) B A k c :=
  fun hk => let ⟨g, e, hB, hH⟩ := h hk; ⟨g, e, hB, hH.alloc o⟩
theorem Sl.drewN {w : World} {B k : Nat} {A : Option Addr} {c : Nat → Value} (h : Sl w B A k c) (n : Nat) : Sl (w.drewN n) B A k c :=
  fun hk => let ⟨g, e, hB, hH⟩ := h hk; ⟨g, e, hB, hH.drewN n⟩
theorem Sl.mono {w : World} {B B' k : Nat} {A : Option Addr} {c : Nat → Value} (h : Sl w B A k c) (hB : B' ≤ B) : Sl w B' A k c :=
  fun hk => let ⟨g, e, h1, hH⟩ := h hk; ⟨g, e, Nat.le_trans hB h1, hH⟩
theorem Sl.congr {w : World} {B k : Nat} {A : Option Addr} {c d : Nat → Value} (h : Sl w B A k c) (e : ∀ o, o < k → c o = d o) : Sl w B A k d :=
  fun hk => let ⟨g, e1, hB, hH⟩ := h hk; ⟨g, e1, hB, hH.congr e⟩
theorem sl_zero (w : World) (B : Nat) (A : Option Addr) (c : Nat → Value) : Sl w B A 0 c := fun h => absurd h (Nat.lt_irrefl _)

/-- A row of the call's own reads as a slice. -/
theorem own_sl {w : World} {base e size n : Nat} {v : Value} {xs : List Value} (h : w.ownsRow base e size v n xs) : ∃ A cap, v = .slice A n cap ∧ n ≤ cap ∧ Sl w base A (n * size) (fun o => xs.getD o undef) := by
  have hlen := h.1
  rcases h.2 with ⟨rfl, rfl⟩ | ⟨g, cap, cur, rfl, hg, hh, hnc, _, _, _⟩
  · exact ⟨none, 0, rfl, Nat.le_refl _, by rw [Nat.zero_mul]; exact sl_zero _ _ _ _⟩
  · refine ⟨_, _, rfl, hnc, fun _ => ⟨g, rfl, hg, ⟨fun o ho => ?_, fun o => h.frozenAt o, (Array.getElem?_eq_some_iff.1 hh).1⟩⟩⟩
    rw [h.cellAt o ho]
    have hlt : o < xs.length := by omega
    simp [hlt]

theorem own_call {w w2 : World} {base e size n : Nat} {v : Value} {xs : List Value} (h : w.ownsRow base e size v n xs) (hb : Below w.heap.size w w2) : w2.ownsRow base e size v n xs := by
  refine ⟨h.1, ?_⟩
  rcases h.2 with h2 | ⟨g, cap, cur, e1, hg, hh, r⟩
  · exact .inl h2
  · exact .inr ⟨g, cap, cur, e1, hg, (hb.block g (Array.getElem?_eq_some_iff.1 hh).1).trans hh, r⟩
theorem own_only {w w2 : World} {base e size n B : Nat} {v : Value} {xs : List Value} (h : w.ownsRow base e size v n xs) (hb : Only B w w2) (hB : B < base) : w2.ownsRow base e size v n xs := by
  refine ⟨h.1, ?_⟩
  rcases h.2 with h2 | ⟨g, cap, cur, e1, hg, hh, r⟩
  · exact .inl h2
  · exact .inr ⟨g, cap, cur, e1, hg, (hb.block g (by omega)).trans hh, r⟩
theorem own_drewN {w : World} {base e size n : Nat} {v : Value} {xs : List Value} (h : w.ownsRow base e size v n xs) (k : Nat) : (w.drewN k).ownsRow base e size v n xs := h

/-- Cells out of a block that is known. -/
theorem Has.news {w : World} {g N o m : Nat} {c : Nat → Value} (h : Has w g N c) (hle : o + m ≤ N) : ∀ j u, ((List.range m).map fun j => c (o + j))[j]? = some u → w.cell? ((⟨g, o, none⟩ : Addr).add j) = some u := by
  intro j u hj
  rw [Addr.add_lit]
  by_cases hjm : j < m
  · simp [hjm] at hj
    rw [h.1 (o + j) (by omega), hj]
  · simp [hjm] at hj

theorem ite_int (p : Prop) [Decidable p] (x y : Int) : (if p then Value.int .i64 x else Value.int .i64 y) = Value.int .i64 (if p then x else y) := by split <;> rfl

theorem ite_bool (p : Prop) [Decidable p] (x y : Bool) : (if p then Value.bool x else Value.bool y) = Value.bool (if p then x else y) := by split <;> rfl

theorem four_set (f : Nat → Int) (x : Nat → Value) (o : Nat) (ho : o < 4) : (if o = 3 then Value.int .i64 (f 3) else if o = 2 then .int .i64 (f 2) else if o = 1 then .int .i64 (f 1) else if o = 0 then .int .i64 (f 0) else x o) = .int .i64 (f o) := by
  rcases (by omega : o = 0 ∨ o = 1 ∨ o = 2 ∨ o = 3) with rfl | rfl | rfl | rfl <;> rfl

theorem info_int3 : (Try.prog.info? 3).map (fun i => (i.zero, i.size, i.bytes)) = some (some (.int .i64 0), 1, 8) := by kernel_rfl

set_option maxHeartbeats 2000000 in
theorem clone_any (g o n cap N : Nat) (c : Nat → Int) (w : World) (hH : Has w g N (fun i => .int .i64 (c i))) (hle : o + n ≤ N) (hn : n ≤ 65536) :
    Calls Try.prog 80 #[.slice (some ⟨g, o, none⟩) n cap] w fun e w' => ∃ v, e = .returned v ∧ w'.ownsRow w.heap.size 3 1 v n ((List.range n).map fun i => .int .i64 (c (o + i))) ∧ Below w.heap.size w w' := by
  obtain ⟨i0, hi0, hz0, hz1, hz2⟩ := info_parts info_int3
  have q22 : ∀ (w : World) (a : Option Addr) (n c n' c' : Nat), (binOp .eql 54 (.slice a n c) (.slice none n' c')).run Try.prog w = .ok (.bool a.isNone) w := fun w a n c n' c' => Lib.run_eql_slice_nil w _ _ a n c n' c' Try.underlying54
  have HH := hide (hH.alloc (.cells #[] 3))
  clear hH
  go_enter Try.func80, Try.ntmps80
  go_wp2_with (at_builtin; refine wpList_append_own _ rfl _ _ 54 rfl w.heap.size 3 i0 (.int .i64 0) 1 8 Try.underlying54 hi0 hz0 hz1 hz2 rfl (by decide) _ _ _ rfl (World.ownsRow_made w #[] 0 (Nat.le_refl _) (Nat.zero_le _) rfl) ⟨g, o, none⟩ n cap ((List.range n).map fun i => .int .i64 (c (o + i))) rfl ?qc1 ?qc2 ?qc3 ?qc4 ?qc5 ?qc6 ?_)
  case qc1 => simp
  case qc2 => exact HH.out.news hle
  case qc3 => intro u hu; obtain ⟨x, _, rfl⟩ := List.mem_map.1 hu; rfl
  case qc4 => unfold maxLen; omega
  case qc5 => omega
  case qc6 => simp
  intro v' w1 hown hgrow hnil
  go_wp2
  go_ret
  refine ⟨v', rfl, by simpa using hown, ?_⟩
  exact ((Below.refl _ w).alloc (Nat.le_refl _) _).grown hgrow (by simp) (by intro k hk; simp [Value.ownBlock] at hk; omega)

end Go.Proofs.Ytmbmknpjmkgjlaa
