/-
  Plain words: the lists of tiles out of which given tiles may have come: the program's and the reference's are the same set.
-/
import Derived.Test.YtmbmknpjmkgjlaaRowO
namespace Go.Proofs.Ytmbmknpjmkgjlaa

def exM : Nat → List Int → List Int
  | _, [] => []
  | c, t :: r => (if c % 2 = 1 then [t - 1, t - 1] else [t]) ++ exM (c / 2) r
theorem exM_eq : ∀ (r : List Int) (c k : Nat), exL c k r = exM (c / 2 ^ k) r
  | [], _, _ => rfl
  | t :: r, c, k => by
    show (if c / 2 ^ k % 2 = 1 then [t - 1, t - 1] else [t]) ++ exL c (k + 1) r = (if c / 2 ^ k % 2 = 1 then [t - 1, t - 1] else [t]) ++ exM (c / 2 ^ k / 2) r
    rw [exM_eq r c (k + 1), Nat.div_div_eq_div_mul, Nat.pow_succ]
theorem exM_mod : ∀ (r : List Int) (c n : Nat), r.length ≤ n → exM (c % 2 ^ n) r = exM c r
  | [], _, _, _ => rfl
  | t :: r, c, 0, h => by simp at h
  | t :: r, c, n + 1, h => by
    have e1 : c % 2 ^ (n + 1) % 2 = c % 2 := by
      rw [Nat.pow_succ, Nat.mul_comm, Nat.mod_mul_right_mod]
    have e2 : c % 2 ^ (n + 1) / 2 = c / 2 % 2 ^ n := by
      rw [Nat.pow_succ, Nat.mul_comm, Nat.mod_mul_right_div_self]
    show (if c % 2 ^ (n + 1) % 2 = 1 then [t - 1, t - 1] else [t]) ++ exM (c % 2 ^ (n + 1) / 2) r = (if c % 2 = 1 then [t - 1, t - 1] else [t]) ++ exM (c / 2) r
    rw [e1, e2, exM_mod r (c / 2) n (by simpa using h)]
theorem exM_two (t : Int) (r : List Int) (c : Nat) : exM (2 * c + 1) (t :: r) = [t - 1, t - 1] ++ exM c r := by
  show (if (2 * c + 1) % 2 = 1 then [t - 1, t - 1] else [t]) ++ exM ((2 * c + 1) / 2) r = _
  rw [if_pos (by omega), show (2 * c + 1) / 2 = c by omega]
theorem exM_one (t : Int) (r : List Int) (c : Nat) : exM (2 * c) (t :: r) = [t] ++ exM c r := by
  show (if (2 * c) % 2 = 1 then [t - 1, t - 1] else [t]) ++ exM ((2 * c) / 2) r = _
  rw [if_neg (by omega), show (2 * c) / 2 = c by omega]

theorem mem_ap : ∀ (r d ts : List Int), (∀ t ∈ r, 0 < t) → (ts ∈ apL d r ↔ ∃ c, d ++ exM c r = ts ∧ ts.length ≤ 4 ∧ (0 : Int) ∉ exM c r)
  | [], d, ts, _ => by
    unfold apL exM
    simp only [List.append_nil, List.not_mem_nil, not_false_eq_true, and_true]
    constructor
    · intro h
      split at h
      · simp at h
      · obtain rfl : ts = d := by simpa using h
        exact ⟨0, rfl, by omega⟩
    · rintro ⟨_, rfl, h⟩
      rw [if_neg (by omega)]
      simp
  | t :: r, d, ts, hp => by
    have hr : ∀ u ∈ r, 0 < u := fun u hu => hp u (List.mem_cons_of_mem _ hu)
    have ht : 0 < t := hp t List.mem_cons_self
    have h1 := mem_ap r (d ++ [t]) ts hr
    have h2 := mem_ap r (d ++ [t - 1, t - 1]) ts hr
    have hu : apL d (t :: r) = if 4 < d.length then [] else apL (d ++ [t]) r ++ (if 1 < t then apL (d ++ [t - 1, t - 1]) r else []) := by rw [apL]
    rw [hu]
    constructor
    · intro h
      split at h
      · simp at h
      · rcases List.mem_append.1 h with h | h
        · obtain ⟨c, e, hl, h0⟩ := h1.1 h
          refine ⟨2 * c, ?_, hl, ?_⟩
          · rw [exM_one, ← List.append_assoc]; exact e
          · rw [exM_one]; simp only [List.singleton_append, List.mem_cons, not_or]; exact ⟨by omega, h0⟩
        · split at h
          · obtain ⟨c, e, hl, h0⟩ := h2.1 h
            refine ⟨2 * c + 1, ?_, hl, ?_⟩
            · rw [exM_two, ← List.append_assoc]; exact e
            · rw [exM_two]; simp only [List.cons_append, List.nil_append, List.mem_cons, not_or]; exact ⟨by omega, by omega, h0⟩
          · simp at h
    · rintro ⟨c, e, hl, h0⟩
      have hd : ¬ 4 < d.length := by
        have := congrArg List.length e
        rw [List.length_append] at this
        omega
      rw [if_neg hd]
      refine List.mem_append.2 ?_
      rcases Nat.mod_two_eq_zero_or_one c with hc | hc
      · have ec : c = 2 * (c / 2) := by omega
        rw [ec, exM_one] at e h0
        refine .inl (h1.2 ⟨c / 2, by rw [← e, ← List.append_assoc], hl, fun h => h0 (List.mem_append_right _ h)⟩)
      · have ec : c = 2 * (c / 2) + 1 := by omega
        rw [ec, exM_two] at e h0
        have ht1 : 1 < t := by
          have : (0 : Int) ≠ t - 1 := fun h => h0 (by rw [h]; simp)
          omega
        rw [if_pos ht1]
        exact .inr (h2.2 ⟨c / 2, by rw [← e, ← List.append_assoc], hl, fun h => h0 (List.mem_append_right _ h)⟩)

/-- The reference tries sixteen numbers: enough for at most four tiles. -/
theorem mem_ap16 {r ts : List Int} (hp : ∀ t ∈ r, 0 < t) (hl : r.length ≤ 4) : ts ∈ apL [] r ↔ ∃ c, c < 16 ∧ exL c 0 r = ts ∧ ts.length ≤ 4 ∧ (0 : Int) ∉ ts := by
  rw [mem_ap r [] ts hp]
  constructor
  · rintro ⟨c, e, h, h0⟩
    refine ⟨c % 2 ^ 4, Nat.mod_lt _ (by omega), ?_, h, ?_⟩
    · rw [exM_eq, Nat.pow_zero, Nat.div_one, exM_mod r c 4 hl]; exact e
    · rw [← e]; exact h0
  · rintro ⟨c, _, e, h, h0⟩
    rw [exM_eq, Nat.pow_zero, Nat.div_one] at e
    exact ⟨c, e, h, by rw [e]; exact h0⟩

end Go.Proofs.Ytmbmknpjmkgjlaa
