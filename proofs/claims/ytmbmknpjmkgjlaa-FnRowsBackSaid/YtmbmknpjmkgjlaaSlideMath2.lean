/-
  Plain words: what a slide of a row leaves; how often a row can change.
-/
import Derived.Test.YtmbmknpjmkgjlaaSlideMath
namespace Go.Proofs.Ytmbmknpjmkgjlaa

theorem n5 {n : Nat} (h : n ≤ 4) : n = 0 ∨ n = 1 ∨ n = 2 ∨ n = 3 ∨ n = 4 := by omega

/-- The tiles of a row that is flush with n tiles. -/
theorem tilesL_flush {o : Nat → Int} {n : Nat} (hn : n ≤ 4) (hp : ∀ j, j < n → o j ≠ 0) (hz : ∀ j, n ≤ j → o j = 0) : tilesL o = (List.range n).map o := by
  rcases n5 hn with rfl | rfl | rfl | rfl | rfl
  · simp [tilesL, hz 0, hz 1, hz 2, hz 3]
  · simp [tilesL, hp 0, hz 1, hz 2, hz 3, List.range_succ]
  · simp [tilesL, hp 0, hp 1, hz 2, hz 3, List.range_succ]
  · simp [tilesL, hp 0, hp 1, hp 2, hz 3, List.range_succ]
  · simp [tilesL, hp 0, hp 1, hp 2, hp 3, List.range_succ]

theorem SR.slid_ok {r : Nat → Int} (hr : ∀ i, i < 4 → 0 ≤ r i ∧ r i ≤ 17) : (SR.slid r).Ok 4 := SR.ok_upto r hr 4 (by omega)
theorem SR.slid_tiles (r : Nat → Int) : SR.slid r = SR.tiles (tilesL r) (tilesL r).length := by
  rw [← SR.foldl_tiles]; unfold SR.tiles; rw [List.take_length]
theorem SR.slid_n_le {r : Nat → Int} (hr : ∀ i, i < 4 → 0 ≤ r i ∧ r i ≤ 17) : (SR.slid r).n ≤ (tilesL r).length := by
  rw [SR.slid_tiles]; exact (SR.ok_tiles (tilesL_pos r hr) _ (Nat.le_refl _)).n
theorem slid_tilesL {r : Nat → Int} (hr : ∀ i, i < 4 → 0 ≤ r i ∧ r i ≤ 17) : tilesL (SR.slid r).out = (List.range (SR.slid r).n).map (SR.slid r).out := by
  have ok := SR.slid_ok hr
  exact tilesL_flush ok.n (fun j hj => by have := ok.pos j hj; omega) ok.zero
theorem slid_len {r : Nat → Int} (hr : ∀ i, i < 4 → 0 ≤ r i ∧ r i ≤ 17) : (tilesL (SR.slid r).out).length = (SR.slid r).n := by
  rw [slid_tilesL hr]; simp

/-- Where no tile is lost, nothing has merged. -/
theorem SR.tiles_full {l : List Int} (h : ∀ t, t ∈ l → 1 ≤ t ∧ t ≤ 17) : ∀ k, k ≤ l.length → (SR.tiles l k).n = k → (∀ j, j < k → (SR.tiles l k).out j = l.getD j 0) ∧ (∀ j, (SR.tiles l k).mg j = false) ∧ (SR.tiles l k).score = 0
  | 0, _, _ => ⟨fun j hj => absurd hj (Nat.not_lt_zero _), fun _ => rfl, rfl⟩
  | k + 1, hk, hn => by
    rw [SR.tiles_succ (by omega)] at hn ⊢
    have ok := SR.ok_tiles h k (by omega)
    unfold SR.step at hn ⊢
    split at hn
    · have := ok.n
      simp only [SR.merged] at hn
      omega
    · rename_i hm
      rw [if_neg hm]
      simp only [SR.pushed] at hn ⊢
      have ih := SR.tiles_full h k (by omega) (by omega)
      refine ⟨fun j hj => ?_, ih.2.1, ih.2.2⟩
      by_cases e : j = k
      · subst e
        rw [if_pos (by omega)]
      · rw [if_neg (by omega)]
        exact ih.1 j (by omega)
/-- Where a tile is lost, something has merged, and the score is not 0. -/
theorem SR.tiles_less {l : List Int} (h : ∀ t, t ∈ l → 1 ≤ t ∧ t ≤ 17) : ∀ k, k ≤ l.length → (SR.tiles l k).n < k → 0 < (SR.tiles l k).score
  | 0, _, hn => absurd hn (Nat.not_lt_zero _)
  | k + 1, hk, hn => by
    rw [SR.tiles_succ (by omega)] at hn ⊢
    have ok := SR.ok_tiles h k (by omega)
    unfold SR.step at hn ⊢
    split at hn
    · rename_i hm
      rw [if_pos hm]
      simp only [SR.merged]
      have := ok.lo
      have h2 : 0 < wrt (l.getD k 0 + 1) := by
        unfold wrt
        exact Int.ofNat_lt.2 (Nat.pow_pos (by omega))
      omega
    · rename_i hm
      rw [if_neg hm]
      simp only [SR.pushed] at hn ⊢
      exact SR.tiles_less h k (by omega) (by omega)
theorem slid_score_zero {r : Nat → Int} (hr : ∀ i, i < 4 → 0 ≤ r i ∧ r i ≤ 17) : (SR.slid r).score = 0 ↔ (SR.slid r).n = (tilesL r).length := by
  rw [SR.slid_tiles]
  have ok := SR.ok_tiles (tilesL_pos r hr) (tilesL r).length (Nat.le_refl _)
  constructor
  · intro h
    rcases Nat.lt_or_ge (SR.tiles (tilesL r) (tilesL r).length).n (tilesL r).length with h2 | h2
    · have := SR.tiles_less (tilesL_pos r hr) _ (Nat.le_refl _) h2
      omega
    · have := ok.n; omega
  · exact fun h => (SR.tiles_full (tilesL_pos r hr) _ (Nat.le_refl _) h).2.2

/-- No empty cell stands ahead of a tile. -/
def flP (r : Nat → Int) : Prop := ∀ k, k < 3 → r k = 0 → r (k + 1) = 0
theorem flP_tiles {r : Nat → Int} (h : flP r) : ∀ j, j < 4 → r j = (tilesL r).getD j 0 := by
  have h0 := h 0 (by omega); have h1 := h 1 (by omega); have h2 := h 2 (by omega)
  simp only [Nat.zero_add, Nat.reduceAdd] at h0 h1 h2
  intro j hj
  rcases (by omega : j = 0 ∨ j = 1 ∨ j = 2 ∨ j = 3) with rfl | rfl | rfl | rfl <;>
    (by_cases z0 : r 0 = 0 <;> by_cases z1 : r 1 = 0 <;> by_cases z2 : r 2 = 0 <;> by_cases z3 : r 3 = 0 <;> simp_all [tilesL])
theorem slid_flP {r : Nat → Int} (hr : ∀ i, i < 4 → 0 ≤ r i ∧ r i ≤ 17) : flP (SR.slid r).out := by
  intro k hk hz
  have ok := SR.slid_ok hr
  by_cases h : k < (SR.slid r).n
  · have := ok.pos k h; omega
  · exact ok.zero _ (by omega)

instance (r : Nat → Int) : Decidable (flP r) := by unfold flP; exact inferInstance
def muR (r : Nat → Int) : Nat := 2 * (tilesL r).length + if flP r then 0 else 1
def fixP (r : Nat → Int) : Prop := ∀ j, j < 4 → (SR.slid r).out j = r j
theorem muR_lt {r : Nat → Int} (hr : ∀ i, i < 4 → 0 ≤ r i ∧ r i ≤ 17) (h : ¬ fixP r) : muR (SR.slid r).out < muR r := by
  unfold muR
  rw [slid_len hr, if_pos (slid_flP hr)]
  have hle := SR.slid_n_le hr
  rcases Nat.lt_or_ge (SR.slid r).n (tilesL r).length with h1 | h1
  · omega
  · have e : (SR.slid r).n = (tilesL r).length := by omega
    split
    · rename_i hf
      exfalso
      apply h
      intro j hj
      rw [flP_tiles hf j hj]
      rcases Nat.lt_or_ge j (tilesL r).length with h2 | h2
      · have := SR.tiles_full (tilesL_pos r hr) (tilesL r).length (Nat.le_refl _) (by rw [← SR.slid_tiles]; exact e)
        rw [SR.slid_tiles]
        exact this.1 j h2
      · rw [(SR.slid_ok hr).zero j (by omega)]
        simp [h2]
    · omega

/-- The row behind k slides. -/
def itR (r : Nat → Int) : Nat → Nat → Int
  | 0 => r
  | k + 1 => (SR.slid (itR r k)).out
theorem slid_in' {r : Nat → Int} (hr : ∀ i, i < 4 → 0 ≤ r i ∧ r i ≤ 17) : ∀ i, i < 4 → 0 ≤ (SR.slid r).out i ∧ (SR.slid r).out i ≤ 17 := by
  intro i hi
  have ok := SR.slid_ok hr
  by_cases h : i < (SR.slid r).n
  · have := ok.pos i h; omega
  · have := ok.zero i (by omega); omega
theorem itR_in {r : Nat → Int} (hr : ∀ i, i < 4 → 0 ≤ r i ∧ r i ≤ 17) : ∀ k, ∀ i, i < 4 → 0 ≤ itR r k i ∧ itR r k i ≤ 17
  | 0 => hr
  | k + 1 => slid_in' (itR_in hr k)
theorem settles {r : Nat → Int} (hr : ∀ i, i < 4 → 0 ≤ r i ∧ r i ≤ 17) : ∃ K, K ≤ 9 ∧ fixP (itR r K) ∧ ∀ j, j < K → ¬ fixP (itR r j) := by
  have key : ∀ (d k : Nat), muR (itR r k) ≤ d → (∀ j, j < k → ¬ fixP (itR r j)) → ∃ K, K ≤ k + d ∧ fixP (itR r K) ∧ ∀ j, j < K → ¬ fixP (itR r j) := by
    intro d
    induction d with
    | zero =>
      intro k hm hall
      by_cases h : fixP (itR r k)
      · exact ⟨k, by omega, h, hall⟩
      · have := muR_lt (itR_in hr k) h
        omega
    | succ d ih =>
      intro k hm hall
      by_cases h : fixP (itR r k)
      · exact ⟨k, by omega, h, hall⟩
      · have h2 := muR_lt (itR_in hr k) h
        obtain ⟨K, h3, h4⟩ := ih (k + 1) (by show muR (SR.slid (itR r k)).out ≤ d; omega) (fun j hj => by
          rcases Nat.lt_or_ge j k with h5 | h5
          · exact hall j h5
          · obtain rfl : j = k := by omega
            exact h)
        exact ⟨K, by omega, h4⟩
  obtain ⟨K, h1, h2⟩ := key 9 0 (by
    have := tilesL_len r
    show muR r ≤ 9
    unfold muR; split <;> omega) (fun j hj => absurd hj (Nat.not_lt_zero _))
  exact ⟨K, by omega, h2⟩

end Go.Proofs.Ytmbmknpjmkgjlaa
