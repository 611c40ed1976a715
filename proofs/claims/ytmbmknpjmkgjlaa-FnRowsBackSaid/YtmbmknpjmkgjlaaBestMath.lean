/-
  Plain words: a row from its end; the greatest sum of scores.
-/
import Derived.Test.YtmbmknpjmkgjlaaSlideMath2
namespace Go.Proofs.Ytmbmknpjmkgjlaa

def turnR (r : Nat → Int) : Nat → Int := fun k => r (3 - k)
theorem turnR_in {r : Nat → Int} (hr : ∀ i, i < 4 → 0 ≤ r i ∧ r i ≤ 17) : ∀ i, i < 4 → 0 ≤ turnR r i ∧ turnR r i ≤ 17 := fun i _ => hr (3 - i) (by omega)
theorem tilesL_turn (r : Nat → Int) : tilesL (turnR r) = (tilesL r).reverse := by
  show ([r 3, r 2, r 1, r 0] : List Int).filter _ = ((([r 0, r 1, r 2, r 3] : List Int).filter _)).reverse
  rw [← List.filter_reverse]; rfl
theorem SR.slid_congr {r q : Nat → Int} (h : ∀ i, i < 4 → r i = q i) : SR.slid r = SR.slid q := by
  simp only [SR.slid, SR.upto, h 0 (by omega), h 1 (by omega), h 2 (by omega), h 3 (by omega)]
theorem turn_turn (r : Nat → Int) : SR.slid (turnR (turnR r)) = SR.slid r := SR.slid_congr fun i hi => by
  show r (3 - (3 - i)) = r i
  congr 1; omega

/-- No two equal tiles stand side by side that could merge. -/
def noAdj (l : List Int) (n : Nat) : Prop := ∀ j, j + 1 < n → l.getD j 0 = l.getD (j + 1) 0 → 17 ≤ l.getD (j + 1) 0
theorem SR.full_iff {l : List Int} (h : ∀ t, t ∈ l → 1 ≤ t ∧ t ≤ 17) : ∀ k, k ≤ l.length → ((SR.tiles l k).n = k ↔ noAdj l k)
  | 0, _ => ⟨fun _ j hj => absurd hj (Nat.not_lt_zero _), fun _ => rfl⟩
  | k + 1, hk => by
    have ih := SR.full_iff h k (by omega)
    have ok := SR.ok_tiles h k (by omega)
    rw [SR.tiles_succ (by omega)]
    unfold SR.step
    by_cases hm : (SR.tiles l k).mer (l.getD k 0) = true
    · rw [if_pos hm]
      simp only [SR.merged]
      have := ok.n
      constructor
      · intro h1; omega
      · intro h1
        obtain ⟨m1, m2, m3, m4⟩ := SR.mer_true hm
        have h2 := ih.2 fun j hj => h1 j (by omega)
        have h3 := (SR.tiles_full h k (by omega) h2).1 (k - 1) (by omega)
        rw [h2] at m2
        have h4 := h1 (k - 1) (by omega) (by rw [← h3, m2]; congr 1; omega)
        rw [show k - 1 + 1 = k by omega] at h4
        omega
    · rw [if_neg hm]
      simp only [SR.pushed]
      constructor
      · intro h1 j hj hjj
        have h2 : (SR.tiles l k).n = k := by omega
        rcases Nat.lt_or_ge (j + 1) k with h5 | h5
        · exact ih.1 h2 j h5 hjj
        · obtain rfl : k = j + 1 := by omega
          have h3 := SR.tiles_full h (j + 1) (by omega) h2
          have h4 := h3.1 j (by omega)
          obtain ⟨t, ht⟩ : ∃ t, t = l.getD (j + 1) 0 := ⟨_, rfl⟩
          rw [← ht] at hm hjj ⊢
          simp only [SR.mer, h2, Nat.add_sub_cancel, h4, h3.2.1 j, hjj] at hm
          simp at hm
          omega
      · intro h1
        have := ih.2 fun j hj => h1 j (by omega)
        omega
theorem noAdj_reverse {l : List Int} (h : noAdj l l.length) : noAdj l.reverse l.reverse.length := by
  intro j hj he
  simp only [List.length_reverse] at hj
  have g : ∀ i, i < l.length → l.reverse.getD i 0 = l.getD (l.length - 1 - i) 0 := fun i hi => by
    simp only [List.getD]
    rw [List.getElem?_reverse hi]
  rw [g j (by omega), g (j + 1) (by omega)] at he
  rw [g (j + 1) (by omega)]
  have h2 := h (l.length - 1 - (j + 1)) (by omega)
  rw [show l.length - 1 - (j + 1) + 1 = l.length - 1 - j by omega] at h2
  have h3 := h2 he.symm
  omega
theorem score_noAdj {r : Nat → Int} (hr : ∀ i, i < 4 → 0 ≤ r i ∧ r i ≤ 17) : (SR.slid r).score = 0 ↔ noAdj (tilesL r) (tilesL r).length := by
  rw [slid_score_zero hr, SR.slid_tiles]
  exact SR.full_iff (tilesL_pos r hr) _ (Nat.le_refl _)
theorem score_turn {r : Nat → Int} (hr : ∀ i, i < 4 → 0 ≤ r i ∧ r i ≤ 17) : (SR.slid (turnR r)).score = 0 ↔ (SR.slid r).score = 0 := by
  rw [score_noAdj hr, score_noAdj (turnR_in hr), tilesL_turn]
  exact ⟨fun h => by have := noAdj_reverse h; simpa using this, noAdj_reverse⟩

/-- The greatest sum of scores of slides of a row. -/
def bestL : Nat → (Nat → Int) → Int
  | 0, _ => 0
  | f + 1, r => if (SR.slid r).score = 0 then 0 else max ((SR.slid r).score + bestL f (SR.slid r).out) ((SR.slid (turnR r)).score + bestL f (SR.slid (turnR r)).out)
theorem bestL_turn {r : Nat → Int} (hr : ∀ i, i < 4 → 0 ≤ r i ∧ r i ≤ 17) : ∀ f, bestL f (turnR r) = bestL f r
  | 0 => rfl
  | f + 1 => by
    simp only [bestL, turn_turn, score_turn hr]
    rw [Int.max_comm]
theorem bestL_le {r : Nat → Int} (hr : ∀ i, i < 4 → 0 ≤ r i ∧ r i ≤ 17) : ∀ f, 0 ≤ bestL f r ∧ bestL f r ≤ 1048576 * f
  | 0 => ⟨Int.le_refl _, Int.le_refl _⟩
  | f + 1 => by
    have o1 := SR.slid_ok hr
    have o2 := SR.slid_ok (turnR_in hr)
    have b1 := bestL_le (slid_in' hr) f
    have b2 := bestL_le (slid_in' (turnR_in hr)) f
    have := o1.lo; have := o1.hi; have := o2.lo; have := o2.hi
    simp only [bestL]
    split
    · omega
    · omega
theorem slid_less {r : Nat → Int} (hr : ∀ i, i < 4 → 0 ≤ r i ∧ r i ≤ 17) (h : (SR.slid r).score ≠ 0) : (tilesL (SR.slid r).out).length < (tilesL r).length := by
  rw [slid_len hr]
  have := SR.slid_n_le hr
  have h2 : (SR.slid r).n ≠ (tilesL r).length := fun e => h ((slid_score_zero hr).2 e)
  omega

/-- Whether a row slides alike to both of its ends, as the reference tells it. -/
def symB (r : Nat → Int) : Bool :=
  decide ((tilesL (SR.slid r).out).length = (tilesL (SR.slid (turnR r)).out).length) &&
    decide (∀ k, k < (tilesL (SR.slid (turnR r)).out).length → (SR.slid r).out k = (SR.slid (turnR r)).out ((tilesL (SR.slid (turnR r)).out).length - 1 - k))

end Go.Proofs.Ytmbmknpjmkgjlaa
