/-
  Plain words: a row while it slides.
-/
import Derived.Test.YtmbmknpjmkgjlaaRow1
namespace Go.Proofs.Ytmbmknpjmkgjlaa

/-- A row while it slides: what stands in its four places, which of them came out of a merger, how many there are, the score. -/
structure SR where
  out : Nat → Int
  mg : Nat → Bool
  n : Nat
  score : Int

def SR.zero : SR := ⟨fun _ => 0, fun _ => false, 0, 0⟩
def wrt (t : Int) : Int := ((2 ^ t.toNat : Nat) : Int)
def SR.mer (s : SR) (t : Int) : Bool := decide (0 < s.n) && (decide (s.out (s.n - 1) = t) && (decide (t < 17) && !s.mg (s.n - 1)))
def SR.merged (s : SR) (t : Int) : SR := ⟨fun j => if j = s.n - 1 then t + 1 else s.out j, fun j => if j = s.n - 1 then true else s.mg j, s.n, s.score + wrt (t + 1)⟩
def SR.pushed (s : SR) (t : Int) : SR := ⟨fun j => if j = s.n then t else s.out j, s.mg, s.n + 1, s.score⟩
def SR.step (s : SR) (t : Int) : SR := if s.mer t = true then s.merged t else s.pushed t

/-- What holds of it behind k tiles. -/
structure SR.Ok (s : SR) (k : Nat) : Prop where
  n : s.n ≤ k
  lo : 0 ≤ s.score
  hi : s.score ≤ 262144 * k
  free : ∀ j, s.n ≤ j → s.mg j = false
  zero : ∀ j, s.n ≤ j → s.out j = 0
  pos : ∀ j, j < s.n → 1 ≤ s.out j ∧ s.out j ≤ 17

theorem SR.ok_zero : SR.zero.Ok 0 := ⟨Nat.le_refl _, Int.le_refl _, by simp [SR.zero], fun _ _ => rfl, fun _ _ => rfl, fun j hj => absurd hj (Nat.not_lt_zero _)⟩

theorem wrt_le {t : Int} (h : t ≤ 18) : 0 ≤ wrt t ∧ wrt t ≤ 262144 := by
  unfold wrt
  have h2 : 2 ^ t.toNat ≤ 2 ^ 18 := Nat.pow_le_pow_right (by omega) (by omega)
  exact ⟨Int.natCast_nonneg _, Int.ofNat_le.2 h2⟩

theorem SR.mer_true {s : SR} {t : Int} (h : s.mer t = true) : 0 < s.n ∧ s.out (s.n - 1) = t ∧ t < 17 ∧ s.mg (s.n - 1) = false := by
  simpa [SR.mer] using h

theorem SR.ok_step {s : SR} {k : Nat} {t : Int} (h : s.Ok k) (h1 : 1 ≤ t) (h2 : t ≤ 17) : (s.step t).Ok (k + 1) := by
  unfold SR.step
  split
  · rename_i hm
    obtain ⟨a, b, c, d⟩ := SR.mer_true hm
    have hw := wrt_le (t := t + 1) (by omega)
    refine ⟨by have := h.n; simp only [SR.merged]; omega, by have := h.lo; simp only [SR.merged]; omega, by have := h.hi; simp only [SR.merged]; omega, fun j hj => ?_, fun j hj => ?_, fun j hj => ?_⟩
    · simp only [SR.merged] at hj ⊢
      rw [if_neg (by omega)]; exact h.free j hj
    · simp only [SR.merged] at hj ⊢
      rw [if_neg (by omega)]; exact h.zero j hj
    · simp only [SR.merged] at hj ⊢
      split
      · omega
      · exact h.pos j hj
  · refine ⟨by have := h.n; simp only [SR.pushed]; omega, by have := h.lo; simp only [SR.pushed]; omega, by have := h.hi; simp only [SR.pushed]; omega, fun j hj => ?_, fun j hj => ?_, fun j hj => ?_⟩
    · simp only [SR.pushed] at hj ⊢
      exact h.free j (by omega)
    · simp only [SR.pushed] at hj ⊢
      rw [if_neg (by omega)]; exact h.zero j (by omega)
    · simp only [SR.pushed] at hj ⊢
      split
      · omega
      · exact h.pos j (by omega)

/-- The reference's step: an empty cell changes nothing. -/
def SR.sstep (s : SR) (t : Int) : SR := if t = 0 then s else s.step t

/-- The row behind n of its cells. -/
def SR.upto (r : Nat → Int) : Nat → SR
  | 0 => SR.zero
  | n + 1 => (SR.upto r n).sstep (r n)

theorem SR.ok_upto (r : Nat → Int) (h : ∀ i, i < 4 → 0 ≤ r i ∧ r i ≤ 17) : ∀ n, n ≤ 4 → (SR.upto r n).Ok n
  | 0, _ => SR.ok_zero
  | n + 1, hn => by
    have ih := SR.ok_upto r h n (by omega)
    have hb := h n (by omega)
    show ((SR.upto r n).sstep (r n)).Ok (n + 1)
    unfold SR.sstep
    split
    · have := ih.n; have := ih.hi
      exact ⟨by omega, ih.lo, by omega, ih.free, ih.zero, ih.pos⟩
    · exact SR.ok_step ih (by omega) hb.2

def SR.slid (r : Nat → Int) : SR := SR.upto r 4

/-- The tiles of a row. -/
def tilesL (r : Nat → Int) : List Int := ([r 0, r 1, r 2, r 3] : List Int).filter fun t => !decide (t = 0)

theorem SR.foldl_tiles (r : Nat → Int) : (tilesL r).foldl SR.step SR.zero = SR.slid r := by
  have key : ∀ (l : List Int) (s : SR), (l.filter fun t => !decide (t = 0)).foldl SR.step s = l.foldl SR.sstep s := by
    intro l
    induction l with
    | nil => intro s; rfl
    | cons x l ih =>
      intro s
      by_cases h : x = 0
      · simp [h, SR.sstep, ih]
      · simp [h, SR.sstep, ih]
  exact (key _ _).trans rfl

theorem tilesL_len (r : Nat → Int) : (tilesL r).length ≤ 4 := Nat.le_trans (List.length_filter_le _ _) (Nat.le_refl _)
theorem tilesL_pos (r : Nat → Int) (h : ∀ i, i < 4 → 0 ≤ r i ∧ r i ≤ 17) : ∀ t, t ∈ tilesL r → 1 ≤ t ∧ t ≤ 17 := by
  intro t ht
  have h0 := h 0 (by omega); have h1 := h 1 (by omega); have h2 := h 2 (by omega); have h3 := h 3 (by omega)
  simp only [tilesL, List.mem_filter, List.mem_cons, List.not_mem_nil, or_false, Bool.not_eq_true', decide_eq_false_iff_not] at ht
  obtain ⟨h, hz⟩ := ht
  rcases h with rfl | rfl | rfl | rfl <;> omega

def SR.tiles (l : List Int) (n : Nat) : SR := (l.take n).foldl SR.step SR.zero
theorem SR.tiles_succ {l : List Int} {n : Nat} (h : n < l.length) : SR.tiles l (n + 1) = (SR.tiles l n).step (l.getD n 0) := by
  unfold SR.tiles
  rw [List.take_succ_eq_append_getElem h, List.foldl_append]
  simp [h]
theorem SR.ok_tiles {l : List Int} (h : ∀ t, t ∈ l → 1 ≤ t ∧ t ≤ 17) : ∀ n, n ≤ l.length → (SR.tiles l n).Ok n
  | 0, _ => SR.ok_zero
  | n + 1, hn => by
    rw [SR.tiles_succ (by omega)]
    have hm := h (l.getD n 0) (by simp [show n < l.length by omega])
    exact SR.ok_step (SR.ok_tiles h n (by omega)) hm.1 hm.2

end Go.Proofs.Ytmbmknpjmkgjlaa
