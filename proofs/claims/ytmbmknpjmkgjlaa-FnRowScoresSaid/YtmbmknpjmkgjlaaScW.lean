/-
  Plain words: a slide of a row and of the row from its end make as many mergers; what can follow a slide scores at most the rest; a row settles within four slides.
-/
import Derived.Test.YtmbmknpjmkgjlaaBestMath
namespace Go.Proofs.Ytmbmknpjmkgjlaa

/-- How many tiles stand behind what is there, its last one L, which has merged or not. -/
def mrg : Int → Bool → List Int → Nat
  | _, _, [] => 0
  | L, F, t :: l => if L = t ∧ t < 17 ∧ F = false then mrg (t + 1) true l else mrg t false l + 1
structure SR.At (s : SR) (L : Int) (F : Bool) : Prop where
  pos : 0 < s.n
  last : s.out (s.n - 1) = L
  mg : s.mg (s.n - 1) = F
  hi : ∀ j, s.n ≤ j → s.mg j = false
theorem fold_mrg : ∀ (l : List Int) (s : SR) (L : Int) (F : Bool), s.At L F → (l.foldl SR.step s).n = s.n + mrg L F l
  | [], s, L, F, _ => by simp [mrg]
  | t :: l, s, L, F, h => by
    rw [List.foldl_cons]
    simp only [mrg]
    have hp := h.pos
    by_cases hc : L = t ∧ t < 17 ∧ F = false
    · rw [if_pos hc]
      have hm : s.mer t = true := by
        simp only [SR.mer, h.last, h.mg, hc.1, hc.2.2]
        simp [hp, hc.2.1]
      have e : s.step t = s.merged t := if_pos hm
      rw [e]
      have h2 : (s.merged t).At (t + 1) true := ⟨hp, by simp [SR.merged], by simp [SR.merged], fun j hj => by
        have hj' : s.n ≤ j := hj
        have : j ≠ s.n - 1 := by omega
        simp only [SR.merged, this, if_false]
        exact h.hi j hj'⟩
      exact fold_mrg l _ _ _ h2
    · rw [if_neg hc]
      have hm : ¬ s.mer t = true := by
        intro hm
        obtain ⟨_, m2, m3, m4⟩ := SR.mer_true hm
        exact hc ⟨h.last.symm.trans m2, m3, h.mg.symm.trans m4⟩
      have e : s.step t = s.pushed t := if_neg hm
      rw [e]
      have h2 : (s.pushed t).At t false := ⟨by simp [SR.pushed], by simp [SR.pushed], by simp only [SR.pushed, Nat.add_sub_cancel]; exact h.hi _ (Nat.le_refl _), fun j hj => h.hi j (by have : s.n + 1 ≤ j := hj; omega)⟩
      rw [fold_mrg l _ _ _ h2]
      simp only [SR.pushed]
      omega
theorem fold_one (a : Int) (l : List Int) : ((a :: l).foldl SR.step SR.zero).n = 1 + mrg a false l := by
  rw [List.foldl_cons]
  have e : SR.zero.step a = SR.zero.pushed a := if_neg (by simp [SR.mer, SR.zero])
  rw [e]
  exact fold_mrg l _ a false ⟨by simp [SR.pushed], by simp [SR.pushed, SR.zero], by simp [SR.pushed, SR.zero], fun _ _ => rfl⟩
theorem n_rev4 (a b c d : Int) : mrg a false [b, c, d] = mrg d false [c, b, a] := by
  simp only [mrg, and_true, Bool.true_eq_false, and_false, if_false]
  split <;> split <;> split <;> (try split) <;> (try split) <;> (try split) <;> omega
theorem n_rev3 (a b c : Int) : mrg a false [b, c] = mrg c false [b, a] := by
  simp only [mrg, and_true, Bool.true_eq_false, and_false, if_false]
  split <;> split <;> (try split) <;> (try split) <;> omega
theorem n_rev2 (a b : Int) : mrg a false [b] = mrg b false [a] := by
  simp only [mrg, and_true]
  split <;> split <;> omega
theorem n_rev : ∀ l : List Int, l.length ≤ 4 → (l.foldl SR.step SR.zero).n = (l.reverse.foldl SR.step SR.zero).n
  | [], _ => rfl
  | [a], _ => rfl
  | [a, b], _ => by rw [show [a, b].reverse = [b, a] from rfl, fold_one, fold_one, n_rev2]
  | [a, b, c], _ => by rw [show [a, b, c].reverse = [c, b, a] from rfl, fold_one, fold_one, n_rev3]
  | [a, b, c, d], _ => by rw [show [a, b, c, d].reverse = [d, c, b, a] from rfl, fold_one, fold_one, n_rev4]
  | _ :: _ :: _ :: _ :: _ :: _, h => by simp at h
theorem n_turn (r : Nat → Int) : (SR.slid (turnR r)).n = (SR.slid r).n := by
  rw [← SR.foldl_tiles, ← SR.foldl_tiles, tilesL_turn]
  exact (n_rev _ (tilesL_len r)).symm

/-- How far a row is from settled. -/
def mu2 (r : Nat → Int) : Nat := (tilesL r).length + if flP r then 0 else 1
theorem flP_four {r : Nat → Int} (h : (tilesL r).length = 4) : flP r := by
  by_cases z0 : r 0 = 0 <;> by_cases z1 : r 1 = 0 <;> by_cases z2 : r 2 = 0 <;> by_cases z3 : r 3 = 0 <;> simp_all [tilesL] <;>
    (intro k hk hz; rcases (by omega : k = 0 ∨ k = 1 ∨ k = 2) with rfl | rfl | rfl <;> simp_all)
theorem mu2_le (r : Nat → Int) : mu2 r ≤ 4 := by
  have h4 := tilesL_len r
  unfold mu2
  by_cases h : (tilesL r).length = 4
  · rw [if_pos (flP_four h)]; omega
  · split <;> omega
theorem mu2_lt {r : Nat → Int} (hr : ∀ i, i < 4 → 0 ≤ r i ∧ r i ≤ 17) (h : ¬ fixP r) : mu2 (SR.slid r).out < mu2 r := by
  have h0 := muR_lt hr h
  unfold muR at h0
  unfold mu2
  rw [slid_len hr, if_pos (slid_flP hr)] at *
  have hle := SR.slid_n_le hr
  split at h0
  · rename_i hf
    rw [if_pos hf]; omega
  · rename_i hf
    rw [if_neg hf]; omega
theorem settle_le {r : Nat → Int} (hr : ∀ i, i < 4 → 0 ≤ r i ∧ r i ≤ 17) {K : Nat} (h : ∀ j, j < K → ¬ fixP (itR r j)) : K ≤ 4 := by
  have key : ∀ k, k ≤ K → mu2 (itR r k) + k ≤ mu2 r := by
    intro k
    induction k with
    | zero => intro _; exact Nat.le_refl _
    | succ k ih =>
      intro hk
      have h1 := ih (by omega)
      have h2 := mu2_lt (itR_in hr k) (h k (by omega))
      show mu2 (SR.slid (itR r k)).out + (k + 1) ≤ mu2 r
      omega
  have h1 := key K (Nat.le_refl _)
  have h2 := mu2_le r
  omega

theorem bestL_more : ∀ (f : Nat) (q : Nat → Int), (∀ i, i < 4 → 0 ≤ q i ∧ q i ≤ 17) → (tilesL q).length ≤ f → bestL (f + 1) q = bestL f q
  | 0, q, hq, h => by
    have e : (SR.slid q).score = 0 := by
      rw [score_noAdj hq]
      intro j hj
      omega
    simp [bestL, e]
  | f + 1, q, hq, h => by
    have e0 : ∀ k, bestL (k + 1) q = if (SR.slid q).score = 0 then 0 else max ((SR.slid q).score + bestL k (SR.slid q).out) ((SR.slid (turnR q)).score + bestL k (SR.slid (turnR q)).out) := fun k => rfl
    rw [e0 (f + 1), e0 f]
    by_cases e : (SR.slid q).score = 0
    · rw [if_pos e, if_pos e]
    · have e2 : (SR.slid (turnR q)).score ≠ 0 := fun h2 => e ((score_turn hq).1 h2)
      have l1 := slid_less hq e
      have l2 := slid_less (turnR_in hq) e2
      rw [tilesL_turn, List.length_reverse] at l2
      rw [if_neg e, if_neg e, bestL_more f _ (slid_in' hq) (by omega), bestL_more f _ (slid_in' (turnR_in hq)) (by omega)]
theorem score_next {r : Nat → Int} (hr : ∀ i, i < 4 → 0 ≤ r i ∧ r i ≤ 17) (h : (SR.slid r).score = 0) : (SR.slid (SR.slid r).out).score = 0 := by
  have hn := (slid_score_zero hr).1 h
  have hna := (score_noAdj hr).1 h
  have e : tilesL (SR.slid r).out = tilesL r := by
    rw [slid_tilesL hr, hn]
    have hf := SR.tiles_full (tilesL_pos r hr) (tilesL r).length (Nat.le_refl _) (by rw [← SR.slid_tiles]; exact hn)
    apply List.ext_getElem
    · simp
    · intro i h1 h2
      simp only [List.getElem_map, List.getElem_range, SR.slid_tiles]
      rw [hf.1 i h2]
      simp [h2]
  rw [score_noAdj (slid_in' hr), e]
  exact hna
/-- One slide and what can follow score at most the most. -/
theorem best_slide {r : Nat → Int} (hr : ∀ i, i < 4 → 0 ≤ r i ∧ r i ≤ 17) : (SR.slid r).score + bestL 5 (SR.slid r).out ≤ bestL 5 r := by
  by_cases e : (SR.slid r).score = 0
  · have e2 := score_next hr e
    have b1 : bestL 5 (SR.slid r).out = 0 := by rw [bestL, if_pos e2]
    have b2 : bestL 5 r = 0 := by rw [bestL, if_pos e]
    omega
  · have hl := tilesL_len (SR.slid r).out
    have b1 := bestL_more 4 _ (slid_in' hr) hl
    have b2 : bestL 5 r = max ((SR.slid r).score + bestL 4 (SR.slid r).out) ((SR.slid (turnR r)).score + bestL 4 (SR.slid (turnR r)).out) := by rw [bestL, if_neg e]
    rw [b1, b2]
    exact Int.le_max_left _ _
theorem symB_turn {r : Nat → Int} (hr : ∀ i, i < 4 → 0 ≤ r i ∧ r i ≤ 17) : symB (turnR r) = symB r := by
  unfold symB
  rw [turn_turn, slid_len hr, slid_len (turnR_in hr), n_turn]
  have hn : (SR.slid r).n = (SR.slid r).n := rfl
  generalize (SR.slid r).n = n at *
  congr 1
  rw [Bool.eq_iff_iff, decide_eq_true_eq, decide_eq_true_eq]
  constructor
  · intro h k hk
    have h1 := h (n - 1 - k) (by omega)
    rw [show n - 1 - (n - 1 - k) = k by omega] at h1
    exact h1.symm
  · intro h k hk
    have h1 := h (n - 1 - k) (by omega)
    rw [show n - 1 - (n - 1 - k) = k by omega] at h1
    exact h1.symm

end Go.Proofs.Ytmbmknpjmkgjlaa
