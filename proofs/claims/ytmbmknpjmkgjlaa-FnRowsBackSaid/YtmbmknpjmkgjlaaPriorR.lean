/-
  Plain words: the rows before a row that is not flush: none.
-/
import Derived.Test.YtmbmknpjmkgjlaaPrior
import Derived.Test.YtmbmknpjmkgjlaaSlideMath2
namespace Go.Proofs.Ytmbmknpjmkgjlaa

/-- The numbers ahead of the first 0. -/
def preL (r : Nat → Int) : List Int := [r 0, r 1, r 2, r 3].takeWhile fun t => decide (0 < t)
/-- c slides to r. -/
def slP (r : Nat → Int) (c : Nat → Int) : Bool := eqR (SR.slid c).out r
theorem preL_flush {r : Nat → Int} (hr : ∀ i, i < 4 → 0 ≤ r i ∧ r i ≤ 17) (h : flP r) : preL r = tilesL r := by
  have h0 := hr 0 (by omega)
  have h1 := hr 1 (by omega)
  have h2 := hr 2 (by omega)
  have h3 := hr 3 (by omega)
  have f0 := h 0 (by omega)
  have f1 := h 1 (by omega)
  have f2 := h 2 (by omega)
  simp only [Nat.zero_add, show 1 + 1 = 2 from rfl, show 2 + 1 = 3 from rfl] at f0 f1 f2
  unfold preL tilesL
  by_cases a0 : r 0 = 0
  · have a1 := f0 a0
    have a2 := f1 a1
    have a3 := f2 a2
    simp [a0, a1, a2, a3]
  · have p0 : 0 < r 0 := by omega
    by_cases a1 : r 1 = 0
    · have a2 := f1 a1
      have a3 := f2 a2
      simp [a0, p0, a1, a2, a3]
    · have p1 : 0 < r 1 := by omega
      by_cases a2 : r 2 = 0
      · have a3 := f2 a2
        simp [a0, p0, a1, p1, a2, a3]
      · have p2 : 0 < r 2 := by omega
        by_cases a3 : r 3 = 0
        · simp [a0, p0, a1, p1, a2, p2, a3]
        · have p3 : 0 < r 3 := by omega
          simp [a0, p0, a1, p1, a2, p2, a3, p3]
theorem preL_in {r : Nat → Int} (hr : ∀ i, i < 4 → 0 ≤ r i ∧ r i ≤ 17) : ∀ t ∈ preL r, 1 ≤ t ∧ t ≤ 17 := by
  intro t ht
  have h1 : 0 < t := by
    have := List.all_eq_true.1 (List.all_takeWhile (p := fun t : Int => decide (0 < t)) (l := [r 0, r 1, r 2, r 3])) t ht
    simpa using this
  have h2 : t ∈ [r 0, r 1, r 2, r 3] := (List.takeWhile_sublist _).subset ht
  simp only [List.mem_cons, List.not_mem_nil, or_false] at h2
  have h0 := hr 0 (by omega)
  have h1' := hr 1 (by omega)
  have h2' := hr 2 (by omega)
  have h3 := hr 3 (by omega)
  rcases h2 with rfl | rfl | rfl | rfl <;> omega
theorem exM_in : ∀ (l : List Int) (c : Nat), (∀ t ∈ l, 1 ≤ t ∧ t ≤ 17) → ∀ t ∈ exM c l, 0 ≤ t ∧ t ≤ 17
  | [], _, _, t, h => by simp [exM] at h
  | u :: l, c, hl, t, h => by
    have hu := hl u List.mem_cons_self
    have ih := exM_in l (c / 2) (fun t ht => hl t (List.mem_cons_of_mem _ ht)) t
    have e : exM c (u :: l) = (if c % 2 = 1 then [u - 1, u - 1] else [u]) ++ exM (c / 2) l := rfl
    rw [e, List.mem_append] at h
    rcases h with h | h
    · split at h
      · simp at h; omega
      · simp at h; omega
    · exact ih h
theorem spB_in {ts : List Int} (h : ∀ t ∈ ts, 0 ≤ t ∧ t ≤ 17) (c j : Nat) : 0 ≤ spB c ts j ∧ spB c ts j ≤ 17 := by
  unfold spB
  split
  · rw [List.getD_eq_getElem?_getD]
    cases e : ts[nB c j]? with
    | none => simp
    | some u => exact h u (List.mem_of_getElem? e)
  · omega
theorem rfL_none {r : Nat → Int} (hr : ∀ i, i < 4 → 0 ≤ r i ∧ r i ≤ 17) (h : ¬ flP r) (n : Nat) : rfL (slP r) (preL r) n = [] := by
  rw [List.eq_nil_iff_forall_not_mem]
  intro x hx
  simp only [rfL, List.mem_flatMap, List.mem_filter, List.mem_map, List.mem_range, spL] at hx
  obtain ⟨ts, ⟨⟨c, _, rfl⟩, _⟩, ⟨d, _, rfl⟩, hP⟩ := hx
  have hts : ∀ t ∈ exL c 0 (preL r), 0 ≤ t ∧ t ≤ 17 := by rw [exM_eq]; exact exM_in _ _ (preL_in hr)
  have hf := slid_flP (r := spB d (exL c 0 (preL r))) (fun i _ => spB_in hts d i)
  have he := eqR_true.1 hP
  exact h fun k hk h0 => by rw [← he (k + 1) (by omega)]; exact hf k hk (by rw [he k (by omega)]; exact h0)

end Go.Proofs.Ytmbmknpjmkgjlaa
