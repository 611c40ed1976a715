/-
  Plain words: the forms of a board as a group; how many forms differ; the first form; boards in order.
-/
import Derived.Test.YtmjehagmgifchaaFormMath
import Derived.Test.YtmjehagmgifchaaManyMath
namespace Go.Proofs.Ytmjehagmgifchaa

def eqB (a b : Nat → Int) : Bool := (List.range 16).all fun p => decide (a p = b p)
theorem eqB_true {a b : Nat → Int} : eqB a b = true ↔ ∀ p, p < 16 → a p = b p := by
  unfold eqB
  rw [List.all_eq_true]
  exact ⟨fun h p hp => of_decide_eq_true (h p (List.mem_range.2 hp)), fun h p hp => decide_eq_true (h p (List.mem_range.1 hp))⟩
theorem eqB_refl (a : Nat → Int) : eqB a a = true := eqB_true.2 fun _ _ => rfl
theorem eqB_symm {a b : Nat → Int} (h : eqB a b = true) : eqB b a = true := eqB_true.2 fun p hp => (eqB_true.1 h p hp).symm
theorem eqB_trans {a b c : Nat → Int} (h : eqB a b = true) (k : eqB b c = true) : eqB a c = true := eqB_true.2 fun p hp => (eqB_true.1 h p hp).trans (eqB_true.1 k p hp)
theorem eqB_comm (a b : Nat → Int) : eqB a b = eqB b a := by
  rw [Bool.eq_iff_iff]; exact ⟨eqB_symm, eqB_symm⟩
theorem fpT_eqB {a b : Nat → Int} : fpT a b 16 = none ↔ eqB a b = true := by
  constructor
  · exact fun h => eqB_true.2 (fpT_none h)
  · intro h
    cases e : fpT a b 16 with
    | none => rfl
    | some q => have := fpT_some e; exact absurd (eqB_true.1 h q this.1) this.2.1
theorem ltB_iff {a b : Nat → Int} : ltB a b = true ↔ ∃ q, q < 16 ∧ a q < b q ∧ ∀ p, p < q → a p = b p := by
  unfold ltB
  cases e : fpT a b 16 with
  | none =>
    simp only [Bool.false_eq_true, false_iff]
    rintro ⟨q, h1, h2, _⟩
    have := fpT_none e q h1; omega
  | some r =>
    obtain ⟨r1, r2, r3⟩ := fpT_some e
    simp only [decide_eq_true_eq]
    constructor
    · exact fun h => ⟨r, r1, h, r3⟩
    · rintro ⟨q, q1, q2, q3⟩
      rcases Nat.lt_trichotomy q r with h | h | h
      · have := r3 q h; omega
      · subst h; exact q2
      · exact absurd (q3 r h) r2
theorem ltB_irrefl {a b : Nat → Int} (h : eqB a b = true) : ltB a b = false := by
  cases e : ltB a b with
  | false => rfl
  | true => obtain ⟨q, h1, h2, _⟩ := ltB_iff.1 e; have := eqB_true.1 h q h1; omega
theorem ltB_trans {a b c : Nat → Int} (h : ltB a b = true) (k : ltB b c = true) : ltB a c = true := by
  obtain ⟨q, h1, h2, h3⟩ := ltB_iff.1 h
  obtain ⟨r, k1, k2, k3⟩ := ltB_iff.1 k
  refine ltB_iff.2 ?_
  rcases Nat.lt_trichotomy q r with e | e | e
  · exact ⟨q, h1, by rw [← k3 q e]; exact h2, fun p hp => (h3 p hp).trans (k3 p (by omega))⟩
  · subst e; exact ⟨q, h1, by omega, fun p hp => (h3 p hp).trans (k3 p hp)⟩
  · exact ⟨r, k1, by rw [h3 r e]; exact k2, fun p hp => (h3 p (by omega)).trans (k3 p hp)⟩
theorem ltB_total {a b : Nat → Int} (h : ltB a b = false) (k : ltB b a = false) : eqB a b = true := by
  rw [← fpT_eqB]
  cases e : fpT a b 16 with
  | none => rfl
  | some q =>
    obtain ⟨q1, q2, q3⟩ := fpT_some e
    rcases Int.lt_or_gt_of_ne q2 with e2 | e2
    · have := ltB_iff.2 ⟨q, q1, e2, q3⟩; rw [h] at this; cases this
    · have := ltB_iff.2 ⟨q, q1, e2, fun p hp => (q3 p hp).symm⟩; rw [k] at this; cases this
theorem ltB_congr {a b c d : Nat → Int} (h : eqB a b = true) (k : eqB c d = true) : ltB a c = ltB b d := by
  rw [Bool.eq_iff_iff, ltB_iff, ltB_iff]
  have h := eqB_true.1 h; have k := eqB_true.1 k
  constructor
  · rintro ⟨q, a1, a2, a3⟩
    exact ⟨q, a1, by rw [← h q a1, ← k q a1]; exact a2, fun p hp => by rw [← h p (by omega), ← k p (by omega)]; exact a3 p hp⟩
  · rintro ⟨q, a1, a2, a3⟩
    exact ⟨q, a1, by rw [h q a1, k q a1]; exact a2, fun p hp => by rw [h p (by omega), k p (by omega)]; exact a3 p hp⟩
theorem ltB_asymm {a b : Nat → Int} (h : ltB a b = true) : ltB b a = false := by
  cases e : ltB b a with
  | false => rfl
  | true => have := ltB_trans h e; rw [ltB_irrefl (eqB_refl a)] at this; cases this

theorem formB_zero (b : Nat → Int) : formB b 0 = b := rfl
theorem formB_form {b : Nat → Int} {k m : Nat} (hk : k < 8) (hm : m < 8) : eqB (formB (formB b k) m) (formB b (bhP k m)) = true := by
  refine eqB_true.2 fun p hp => ?_
  show b (srcP k (srcP m p)) = b (srcP (bhP k m) p)
  rw [srcP_bh k hk m hm p hp]
theorem formB_congr {b c : Nat → Int} (h : eqB b c = true) {k : Nat} (hk : k < 8) : eqB (formB b k) (formB c k) = true :=
  eqB_true.2 fun p hp => eqB_true.1 h _ (srcP_lt k hk p hp)
theorem formB_back {b c : Nat → Int} {k : Nat} (hk : k < 8) (h : eqB (formB b k) (formB c k) = true) : eqB b c = true := by
  have h1 := formB_congr h (bkP_lt k hk)
  have h2 := formB_form (b := b) hk (bkP_lt k hk)
  have h3 := formB_form (b := c) hk (bkP_lt k hk)
  rw [(bh_bk k hk).1] at h2 h3
  exact eqB_trans (eqB_symm h2) (eqB_trans h1 h3)

/-- Which forms are the board itself. -/
def smB (b : Nat → Int) (k : Nat) : Bool := eqB (formB b k) b
def symL (b : Nat → Int) (n : Nat) : List Nat := (List.range n).filter fun k => smB b k
theorem symL_succ (b : Nat → Int) (n : Nat) : symL b (n + 1) = if smB b n = true then symL b n ++ [n] else symL b n := by
  unfold symL
  rw [List.range_succ, List.filter_append]
  by_cases h : smB b n = true <;> simp [h]
theorem symL_len (b : Nat → Int) (n : Nat) : (symL b n).length ≤ n := by
  have := List.length_filter_le (fun k => smB b k) (List.range n)
  simpa [symL] using this
theorem smB_mul {b : Nat → Int} {j k : Nat} (hj : j < 8) (hk : k < 8) (h1 : smB b j = true) (h2 : smB b k = true) : smB b (bhP j k) = true :=
  eqB_trans (eqB_symm (formB_form hj hk)) (eqB_trans (formB_congr h1 hk) h2)
theorem smB_same {b : Nat → Int} {j k : Nat} (hj : j < 8) (hk : k < 8) : eqB (formB b j) (formB b k) = smB b (bhP k (bkP j)) := by
  rw [Bool.eq_iff_iff]
  have h2 := formB_form (b := b) hj (bkP_lt j hj)
  have h3 := formB_form (b := b) hk (bkP_lt j hj)
  rw [(bh_bk j hj).1] at h2
  constructor
  · intro h
    exact eqB_trans (eqB_symm h3) (eqB_trans (eqB_symm (formB_congr h (bkP_lt j hj))) h2)
  · intro h
    refine formB_back (bkP_lt j hj) ?_
    exact eqB_trans h2 (eqB_trans (eqB_symm h) (eqB_symm h3))

/-- The numbers of the forms that no form ahead is the same as. -/
def newL (b : Nat → Int) : List Nat := (List.range 8).filter fun k => !((List.range k).any fun j => eqB (formB b j) (formB b k))
def cnt8 (s : Nat → Bool) : Nat := ((List.range 8).filter fun k => s k).length
def new8 (s : Nat → Bool) : Nat := ((List.range 8).filter fun k => !((List.range k).any fun j => s (bhP k (bkP j)))).length
def clo8 (s : Nat → Bool) : Bool := s 0 && (List.range 8).all fun j => (List.range 8).all fun k => !(s j && s k) || s (bhP j k)
def of7 (s1 s2 s3 s4 s5 s6 s7 : Bool) : Nat → Bool := fun k => match k with | 0 => true | 1 => s1 | 2 => s2 | 3 => s3 | 4 => s4 | 5 => s5 | 6 => s6 | _ => s7
theorem clo_cnt : ∀ s1 s2 s3 s4 s5 s6 s7 : Bool, clo8 (of7 s1 s2 s3 s4 s5 s6 s7) = true → new8 (of7 s1 s2 s3 s4 s5 s6 s7) * cnt8 (of7 s1 s2 s3 s4 s5 s6 s7) = 8 := by decide +kernel

theorem filter_cong {α : Type} {p q : α → Bool} : ∀ (l : List α), (∀ x, x ∈ l → p x = q x) → l.filter p = l.filter q
  | [], _ => rfl
  | x :: l, h => by
    rw [List.filter_cons, List.filter_cons, h x (List.mem_cons_self ..), filter_cong l fun y hy => h y (List.mem_cons_of_mem _ hy)]
theorem any_cong {α : Type} {p q : α → Bool} : ∀ (l : List α), (∀ x, x ∈ l → p x = q x) → l.any p = l.any q
  | [], _ => rfl
  | x :: l, h => by
    rw [List.any_cons, List.any_cons, h x (List.mem_cons_self ..), any_cong l fun y hy => h y (List.mem_cons_of_mem _ hy)]
theorem of7_eq (s : Nat → Bool) (h0 : s 0 = true) : ∀ k, k < 8 → s k = of7 (s 1) (s 2) (s 3) (s 4) (s 5) (s 6) (s 7) k := by
  intro k hk
  rcases k8 hk with rfl | rfl | rfl | rfl | rfl | rfl | rfl | rfl
  · exact h0
  all_goals rfl
theorem bhP8 {j k : Nat} (hj : j < 8) (hk : k < 8) : bhP k (bkP j) < 8 := bhP_lt k hk _ (bkP_lt j hj)
/-- The forms that differ and the symmetries make 8. -/
theorem new_sym (b : Nat → Int) : (newL b).length * (symL b 8).length = 8 := by
  have h0 : smB b 0 = true := eqB_refl b
  have e := of7_eq (smB b) h0
  have h := clo_cnt (smB b 1) (smB b 2) (smB b 3) (smB b 4) (smB b 5) (smB b 6) (smB b 7) (by
    unfold clo8
    rw [← e 0 (by omega), h0, Bool.true_and, List.all_eq_true]
    intro j hj
    rw [List.all_eq_true]
    intro k hk
    have hj := List.mem_range.1 hj; have hk := List.mem_range.1 hk
    rw [← e j hj, ← e k hk, ← e _ (bhP_lt j hj k hk)]
    cases h1 : smB b j <;> cases h2 : smB b k <;> simp
    exact smB_mul hj hk h1 h2)
  have e1 : symL b 8 = (List.range 8).filter fun k => of7 (smB b 1) (smB b 2) (smB b 3) (smB b 4) (smB b 5) (smB b 6) (smB b 7) k :=
    filter_cong _ fun k hk => e k (List.mem_range.1 hk)
  have e2 : newL b = (List.range 8).filter fun k => !((List.range k).any fun j => of7 (smB b 1) (smB b 2) (smB b 3) (smB b 4) (smB b 5) (smB b 6) (smB b 7) (bhP k (bkP j))) := by
    refine filter_cong _ fun k hk => ?_
    have hk := List.mem_range.1 hk
    congr 1
    refine any_cong _ fun j hj => ?_
    have hj := List.mem_range.1 hj
    rw [smB_same (by omega) hk, e _ (bhP8 (by omega) hk)]
  rw [e1, e2]
  exact h

/-- The number of the first form among the first n. -/
def ffK (b : Nat → Int) : Nat → Nat
  | 0 => 0
  | n + 1 => if ltB (formB b n) (formB b (ffK b n)) = true then n else ffK b n
theorem ffK_lt (b : Nat → Int) : ∀ n, ffK b n < n + 1
  | 0 => by simp [ffK]
  | n + 1 => by have := ffK_lt b n; simp only [ffK]; split <;> omega
theorem ffK_one (b : Nat → Int) : ffK b 1 = 0 := by simp only [ffK]; exact ite_self _
theorem ffK_le (b : Nat → Int) : ∀ n k, k < n → ltB (formB b k) (formB b (ffK b n)) = false
  | 0, _, h => absurd h (Nat.not_lt_zero _)
  | n + 1, k, h => by
    simp only [ffK]
    by_cases e : k = n
    · subst e
      split
      · exact ltB_irrefl (eqB_refl _)
      · rename_i h2; simpa using h2
    · have ih := ffK_le b n k (by omega)
      split
      · rename_i h2
        cases h3 : ltB (formB b k) (formB b n) with
        | false => rfl
        | true => rw [ltB_trans h3 h2] at ih; cases ih
      · exact ih

end Go.Proofs.Ytmjehagmgifchaa
