/-
  Plain words: lines of a board, a slide of a board, its forms.
-/
import Derived.Test.YtmjehagmgifchaaSlideMath
namespace Go.Proofs.Ytmjehagmgifchaa

/-- The place of cell k of line i in direction d; the line and the place in it of a cell. -/
def lineAt (d i k : Nat) : Nat := match d with | 0 => 4 * i + k | 1 => 4 * k + i | 2 => 4 * i + (3 - k) | _ => 4 * (3 - k) + i
def lnI (d p : Nat) : Nat := match d with | 0 => p / 4 | 1 => p % 4 | 2 => p / 4 | _ => p % 4
def lnK (d p : Nat) : Nat := match d with | 0 => p % 4 | 1 => p / 4 | 2 => 3 - p % 4 | _ => 3 - p / 4
def lineOf (b : Nat → Int) (d i : Nat) : Nat → Int := fun k => b (lineAt d i k)

theorem d4 {d : Nat} (h : d < 4) : d = 0 ∨ d = 1 ∨ d = 2 ∨ d = 3 := by omega
theorem lineAt_lt {d i k : Nat} (hi : i < 4) (hk : k < 4) : lineAt d i k < 16 := by
  unfold lineAt; split <;> omega
theorem lnI_at {d i k : Nat} (hd : d < 4) (hi : i < 4) (hk : k < 4) : lnI d (lineAt d i k) = i := by
  rcases d4 hd with rfl | rfl | rfl | rfl <;> simp only [lineAt, lnI] <;> omega
theorem lnK_at {d i k : Nat} (hd : d < 4) (hi : i < 4) (hk : k < 4) : lnK d (lineAt d i k) = k := by
  rcases d4 hd with rfl | rfl | rfl | rfl <;> simp only [lineAt, lnK] <;> omega
theorem at_lnIK {d p : Nat} (hd : d < 4) (hp : p < 16) : lineAt d (lnI d p) (lnK d p) = p := by
  rcases d4 hd with rfl | rfl | rfl | rfl <;> simp only [lineAt, lnI, lnK] <;> omega
theorem lnI_lt {d p : Nat} (hp : p < 16) : lnI d p < 4 := by unfold lnI; split <;> omega
theorem lnK_lt {d p : Nat} : lnK d p < 4 ∨ 16 ≤ p := by unfold lnK; split <;> omega

/-- The board behind the first k stores of a row r into line i. -/
def setTo (b : Nat → Int) (d i : Nat) (r : Nat → Int) (k : Nat) : Nat → Int := fun p => if lnI d p = i ∧ lnK d p < k then r (lnK d p) else b p
def setL (b : Nat → Int) (d i : Nat) (r : Nat → Int) : Nat → Int := setTo b d i r 4
theorem setTo_zero (b : Nat → Int) (d i : Nat) (r : Nat → Int) : setTo b d i r 0 = b := by
  funext p; simp [setTo]
theorem setTo_succ {b : Nat → Int} {d i : Nat} {r : Nat → Int} {k p : Nat} (hd : d < 4) (hi : i < 4) (hk : k < 4) (hp : p < 16) :
    (if p = lineAt d i k then r k else setTo b d i r k p) = setTo b d i r (k + 1) p := by
  by_cases e : p = lineAt d i k
  · subst e
    simp [setTo, lnI_at hd hi hk, lnK_at hd hi hk]
  · rw [if_neg e]
    unfold setTo
    have h := at_lnIK hd hp
    by_cases h1 : lnI d p = i ∧ lnK d p < k
    · rw [if_pos h1, if_pos ⟨h1.1, by omega⟩]
    · rw [if_neg h1, if_neg]
      rintro ⟨rfl, h2⟩
      have : lnK d p = k := by
        by_cases h3 : lnK d p < k
        · exact absurd ⟨rfl, h3⟩ h1
        · omega
      subst this
      exact e h.symm

/-- The board behind a slide. -/
def slB (b : Nat → Int) (d : Nat) : Nat → Int := fun p => (SR.slid (lineOf b d (lnI d p))).out (lnK d p)
def slTo (b : Nat → Int) (d i : Nat) : Nat → Int := fun p => if lnI d p < i then slB b d p else b p
theorem slTo_zero (b : Nat → Int) (d : Nat) : slTo b d 0 = b := by funext p; simp [slTo]
theorem slTo_four {b : Nat → Int} {d p : Nat} (hp : p < 16) : slTo b d 4 p = slB b d p := by simp [slTo, lnI_lt hp]
theorem slTo_succ {b : Nat → Int} {d i p : Nat} (hp : p < 16) : setL (slTo b d i) d i (SR.slid (lineOf b d i)).out p = slTo b d (i + 1) p := by
  unfold setL setTo slTo
  by_cases h : lnI d p = i
  · subst h
    rw [if_pos ⟨rfl, by have := @lnK_lt d p; omega⟩, if_pos (by omega)]; rfl
  · rw [if_neg (fun hh => h hh.1)]
    by_cases h2 : lnI d p < i
    · rw [if_pos h2, if_pos (by omega)]
    · rw [if_neg h2, if_neg (by omega)]

/-- The score of a slide of the first i lines; the mergers. -/
def scTo (b : Nat → Int) (d : Nat) : Nat → Int
  | 0 => 0
  | i + 1 => scTo b d i + (SR.slid (lineOf b d i)).score
def cntM (m : Nat → Bool) : Nat → Int
  | 0 => 0
  | k + 1 => cntM m k + if m k = true then 1 else 0
def mgTo (b : Nat → Int) (d : Nat) : Nat → Int
  | 0 => 0
  | i + 1 => mgTo b d i + cntM (SR.slid (lineOf b d i)).mg 4
theorem cntM_le (m : Nat → Bool) : ∀ k, 0 ≤ cntM m k ∧ cntM m k ≤ k
  | 0 => ⟨Int.le_refl _, Int.le_refl _⟩
  | k + 1 => by have := cntM_le m k; simp only [cntM]; split <;> omega

def In17 (b : Nat → Int) (n : Nat) : Prop := ∀ i, i < n → 0 ≤ b i ∧ b i ≤ 17
theorem lineOf_in {b : Nat → Int} {d i : Nat} (h : In17 b 16) (hi : i < 4) : ∀ k, k < 4 → 0 ≤ lineOf b d i k ∧ lineOf b d i k ≤ 17 :=
  fun _ hk => h _ (lineAt_lt hi hk)
theorem scTo_le {b : Nat → Int} {d : Nat} (h : In17 b 16) : ∀ i, i ≤ 4 → 0 ≤ scTo b d i ∧ scTo b d i ≤ 1048576 * i
  | 0, _ => ⟨Int.le_refl _, Int.le_refl _⟩
  | i + 1, hi => by
    have h1 := scTo_le (d := d) h i (by omega)
    have h2 := SR.ok_upto (lineOf b d i) (lineOf_in h (by omega)) 4 (by omega)
    have := h2.lo; have := h2.hi
    simp only [scTo, SR.slid]; omega
theorem mgTo_le {b : Nat → Int} {d : Nat} : ∀ i, 0 ≤ mgTo b d i ∧ mgTo b d i ≤ 4 * i
  | 0 => ⟨Int.le_refl _, Int.le_refl _⟩
  | i + 1 => by
    have h1 := mgTo_le (b := b) (d := d) i
    have h2 := cntM_le (SR.slid (lineOf b d i)).mg 4
    simp only [mgTo]; omega
theorem slB_in {b : Nat → Int} {d : Nat} (hb : In17 b 16) : In17 (slB b d) 16 := by
  intro p hp
  have h := SR.ok_upto (lineOf b d (lnI d p)) (lineOf_in hb (lnI_lt hp)) 4 (by omega)
  by_cases hn : lnK d p < (SR.upto (lineOf b d (lnI d p)) 4).n
  · have := h.pos _ hn
    simp only [slB, SR.slid]; omega
  · have := h.zero (lnK d p) (by omega)
    simp only [slB, SR.slid]; omega

end Go.Proofs.Ytmjehagmgifchaa
