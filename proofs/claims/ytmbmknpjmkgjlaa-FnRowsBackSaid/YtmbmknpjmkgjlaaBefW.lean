/-
  Words: the rows before a row, step by step.
-/
import Derived.Test.YtmbmknpjmkgjlaaSprS
namespace Go.Proofs.Ytmbmknpjmkgjlaa
open Go.RowKit

theorem exL_snoc (c : Nat) (t : Int) : ∀ (l : List Int) (j : Nat), exL c j (l ++ [t]) = exL c j l ++ (if c / 2 ^ (j + l.length) % 2 = 1 then [t - 1, t - 1] else [t])
  | [], j => by simp [exL]
  | u :: l, j => by
    have ih := exL_snoc c t l (j + 1)
    rw [show j + 1 + l.length = j + (u :: l).length by simp; omega] at ih
    rw [List.cons_append]
    show (if c / 2 ^ j % 2 = 1 then [u - 1, u - 1] else [u]) ++ exL c (j + 1) (l ++ [t]) = ((if c / 2 ^ j % 2 = 1 then [u - 1, u - 1] else [u]) ++ exL c (j + 1) l) ++ _
    rw [ih, List.append_assoc]
theorem exL_len (c : Nat) : ∀ (l : List Int) (j : Nat), (exL c j l).length ≤ 2 * l.length
  | [], _ => by simp [exL]
  | u :: l, j => by
    have ih := exL_len c l (j + 1)
    simp only [exL, List.length_append, List.length_cons]
    split <;> simp <;> omega
/-- The numbers ahead of the first 0: how many, and what stands behind them. -/
theorem pre_at (r : Nat → Int) : (preL r).length ≤ 4 ∧ (∀ k, k < (preL r).length → 0 < r k ∧ (preL r).take (k + 1) = (preL r).take k ++ [r k]) ∧ ((preL r).length < 4 → ¬ 0 < r (preL r).length) := by
  unfold preL
  by_cases a0 : 0 < r 0
  · by_cases a1 : 0 < r 1
    · by_cases a2 : 0 < r 2
      · by_cases a3 : 0 < r 3
        · simp only [List.takeWhile_cons, a0, a1, a2, a3, decide_true, if_true, List.takeWhile_nil, List.length_cons, List.length_nil]
          refine ⟨by omega, fun k hk => ?_, fun h => by omega⟩
          rcases p4 hk with rfl | rfl | rfl | rfl <;> exact ⟨by assumption, rfl⟩
        · simp only [List.takeWhile_cons, a0, a1, a2, a3, decide_true, decide_false, if_true, List.length_cons]
          refine ⟨by simp, fun k hk => ?_, fun _ => by simpa using a3⟩
          have hk' : k < 3 := by simpa using hk
          rcases (by omega : k = 0 ∨ k = 1 ∨ k = 2) with rfl | rfl | rfl <;> exact ⟨by assumption, rfl⟩
      · simp only [List.takeWhile_cons, a0, a1, a2, decide_true, decide_false, if_true, List.length_cons]
        refine ⟨by simp, fun k hk => ?_, fun _ => by simpa using a2⟩
        have hk' : k < 2 := by simpa using hk
        rcases (by omega : k = 0 ∨ k = 1) with rfl | rfl <;> exact ⟨by assumption, rfl⟩
    · simp only [List.takeWhile_cons, a0, a1, decide_true, decide_false, if_true, List.length_cons]
      refine ⟨by simp, fun k hk => ?_, fun _ => by simpa using a1⟩
      have hk' : k < 1 := by simpa using hk
      obtain rfl : k = 0 := by omega
      exact ⟨by assumption, rfl⟩
  · simp only [List.takeWhile_cons, a0, decide_false]
    refine ⟨by simp, fun k hk => absurd hk (by simp), fun _ => by simpa using a0⟩
theorem rfL_succ (P : (Nat → Int) → Bool) (r : List Int) (n : Nat) : rfL P r (n + 1) = rfL P r n ++ (if (exL n 0 r).length ≤ 4 ∧ (0 : Int) ∉ exL n 0 r then (spL (exL n 0 r) 16).filter P else []) := by
  unfold rfL
  rw [List.range_succ, List.map_append, List.filter_append, List.flatMap_append]
  congr 1
  by_cases h : (exL n 0 r).length ≤ 4 ∧ (0 : Int) ∉ exL n 0 r
  · rw [if_pos h]
    simp only [List.map_cons, List.map_nil, List.filter_cons, h, not_false_eq_true, and_self, decide_true, if_true, List.filter_nil, List.flatMap_cons, List.flatMap_nil, List.append_nil]
  · rw [if_neg h]
    simp only [List.map_cons, List.map_nil, List.filter_cons, h, decide_false, List.filter_nil]
    rfl
theorem ad_len {α : Type} (lt eq : α → α → Bool) (b : α) : ∀ l : List α, (adO lt eq l b).length ≤ l.length + 1
  | [] => by simp [adO]
  | a :: l => by
    have ih := ad_len lt eq b l
    simp only [adO]
    split
    · simp; omega
    · split <;> simp
theorem put_len {α : Type} (lt eq : α → α → Bool) : ∀ L acc : List α, (L.foldl (adO lt eq) acc).length ≤ acc.length + L.length
  | [], acc => by simp
  | b :: L, acc => by
    have h1 := put_len lt eq L (adO lt eq acc b)
    have h2 := ad_len lt eq b acc
    simp only [List.foldl_cons, List.length_cons]
    omega
theorem putO_len {α : Type} (lt eq : α → α → Bool) (L : List α) : (putO lt eq L).length ≤ L.length := by
  have := put_len lt eq L []
  simpa [putO] using this
theorem rfL_len (P : (Nat → Int) → Bool) (r : List Int) : ∀ n, (rfL P r n).length ≤ n * 16
  | 0 => by simp [rfL]
  | n + 1 => by
    have ih := rfL_len P r n
    have h1 := List.length_filter_le P (spL (exL n 0 r) 16)
    have h2 := spL_len (exL n 0 r) 16
    rw [rfL_succ, List.length_append]
    split
    · omega
    · simp; omega
/-- What is put, number by number of one list of tiles. -/
def pfL (P : (Nat → Int) → Bool) (L0 : List (Nat → Int)) (all : List (Nat → Int)) (i : Nat) : List (Nat → Int) := putO ltR eqR (L0 ++ (all.take i).filter P)
theorem take_snoc {l : List (Nat → Int)} {i : Nat} (h : i < l.length) : l.take (i + 1) = l.take i ++ [atR l i] := by
  rw [List.take_add_one, List.getElem?_eq_getElem h]
  simp [atR, h]
theorem pfL_yes {P : (Nat → Int) → Bool} {L0 all : List (Nat → Int)} {i : Nat} (h : i < all.length) (hP : P (atR all i) = true) : pfL P L0 all (i + 1) = adO ltR eqR (pfL P L0 all i) (atR all i) := by
  unfold pfL
  rw [take_snoc h, List.filter_append, ← List.append_assoc]
  simp only [List.filter_cons, hP, if_true, List.filter_nil]
  exact putO_snoc _ _ _ _
theorem pfL_no {P : (Nat → Int) → Bool} {L0 all : List (Nat → Int)} {i : Nat} (h : i < all.length) (hP : P (atR all i) = false) : pfL P L0 all (i + 1) = pfL P L0 all i := by
  unfold pfL
  rw [take_snoc h, List.filter_append]
  simp [hP]
theorem pfL_len (P : (Nat → Int) → Bool) (L0 all : List (Nat → Int)) (i : Nat) : (pfL P L0 all i).length ≤ L0.length + all.length := by
  have h1 := putO_len ltR eqR (L0 ++ (all.take i).filter P)
  have h2 := List.length_filter_le P (all.take i)
  have h3 := List.length_take_le i all
  have h4 : (all.take i).length ≤ all.length := by rw [List.length_take]; omega
  rw [List.length_append] at h1
  unfold pfL
  omega
theorem spL_in {ts : List Int} (h : ∀ t ∈ ts, 0 ≤ t ∧ t ≤ 17) {n i : Nat} (hi : i < (spL ts n).length) : ∀ j, j < 4 → 0 ≤ atR (spL ts n) i j ∧ atR (spL ts n) i j ≤ 17 := by
  intro j _
  have hm : atR (spL ts n) i ∈ spL ts n := by
    have : atR (spL ts n) i = (spL ts n)[i] := by simp [atR, hi]
    rw [this]; exact List.getElem_mem hi
  obtain ⟨c, _, e⟩ := List.mem_map.1 hm
  rw [← e]
  exact spB_in h c j
theorem exL_in {r : Nat → Int} (hr : ∀ i, i < 4 → 0 ≤ r i ∧ r i ≤ 17) (c : Nat) : ∀ t ∈ exL c 0 (preL r), 0 ≤ t ∧ t ≤ 17 := by
  rw [exM_eq]; exact exM_in _ _ (preL_in hr)
theorem load_RRo {ops : Array Oper} {rest : List Oper} {op : Oper} {a : Act} {w : World} {Q : Exit → Act → World → Prop} (hgd : op.guard = none) (x : Operand) (ho : op.op = .load 22 x)
    (b k : Nat) (f : Nat → Int) (hx : a.eval x = .pointer (some ⟨b, k * 4, none⟩)) (hH : RRo b k f w)
    (h : wpList Try.prog ops Q rest (a.put op.dst (.agg #[.int .i64 (f 0), .int .i64 (f 1), .int .i64 (f 2), .int .i64 (f 3)])) w) : wpList Try.prog ops Q (op :: rest) a w :=
  wpList_load_mid hgd 22 x ho b (k * 4) hx _ _ hH.r Try.underlying22 rfl (by kernel_rfl) h

end Go.Proofs.Ytmbmknpjmkgjlaa
