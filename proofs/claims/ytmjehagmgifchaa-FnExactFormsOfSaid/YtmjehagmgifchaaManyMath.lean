/-
  Plain words: how many tiles a board has; a slide makes as many mergers as tiles get fewer.
-/
import Derived.Test.YtmjehagmgifchaaBoardMath
import Derived.Test.YtmjehagmgifchaaSlideMath2
namespace Go.Proofs.Ytmjehagmgifchaa

theorem p16 {n : Nat} (h : n < 16) : n = 0 ∨ n = 1 ∨ n = 2 ∨ n = 3 ∨ n = 4 ∨ n = 5 ∨ n = 6 ∨ n = 7 ∨ n = 8 ∨ n = 9 ∨ n = 10 ∨ n = 11 ∨ n = 12 ∨ n = 13 ∨ n = 14 ∨ n = 15 := by omega

def nz (x : Int) : Int := if x = 0 then 0 else 1
theorem nz_le (x : Int) : 0 ≤ nz x ∧ nz x ≤ 1 := by unfold nz; split <;> omega
def nzR (r : Nat → Int) : Int := nz (r 0) + nz (r 1) + nz (r 2) + nz (r 3)
theorem nzR_tiles (r : Nat → Int) : ((tilesL r).length : Int) = nzR r := by
  by_cases z0 : r 0 = 0 <;> by_cases z1 : r 1 = 0 <;> by_cases z2 : r 2 = 0 <;> by_cases z3 : r 3 = 0 <;> simp [tilesL, nzR, nz, z0, z1, z2, z3]

/-- The places of the empty cells among the first n. -/
def emL (b : Nat → Int) (n : Nat) : List Nat := (List.range n).filter fun p => decide (b p = 0)
theorem emL_succ (b : Nat → Int) (n : Nat) : emL b (n + 1) = if b n = 0 then emL b n ++ [n] else emL b n := by
  unfold emL
  rw [List.range_succ, List.filter_append]
  by_cases h : b n = 0 <;> simp [h]
theorem emL_len (b : Nat → Int) (n : Nat) : (emL b n).length ≤ n := by
  have := List.length_filter_le (fun p => decide (b p = 0)) (List.range n)
  simpa [emL] using this
/-- The number of tiles among the first n cells. -/
def mnB (b : Nat → Int) : Nat → Int
  | 0 => 0
  | n + 1 => mnB b n + nz (b n)
theorem mnB_emL (b : Nat → Int) : ∀ n, mnB b n = n - ((emL b n).length : Int)
  | 0 => rfl
  | n + 1 => by
    rw [mnB, mnB_emL b n, emL_succ, nz]
    split <;> simp <;> omega
theorem mnB_congr {b c : Nat → Int} : ∀ {n : Nat}, (∀ p, p < n → b p = c p) → mnB b n = mnB c n
  | 0, _ => rfl
  | n + 1, h => by rw [mnB, mnB, mnB_congr fun p hp => h p (by omega), h n (by omega)]
theorem mnB_lines (b : Nat → Int) {d : Nat} (hd : d < 4) : mnB b 16 = nzR (lineOf b d 0) + nzR (lineOf b d 1) + nzR (lineOf b d 2) + nzR (lineOf b d 3) := by
  rcases d4 hd with rfl | rfl | rfl | rfl <;> simp [mnB, nzR, lineOf, lineAt] <;> omega

theorem cntM_set {m : Nat → Bool} {i : Nat} (hm : m i = false) : ∀ k, cntM (fun j => if j = i then true else m j) k = cntM m k + if i < k then 1 else 0
  | 0 => by simp [cntM]
  | k + 1 => by
    rw [cntM, cntM, cntM_set hm k]
    by_cases e : k = i
    · subst e; simp [hm]
    · by_cases h : i < k
      · rw [if_pos h, if_pos (by omega : i < k + 1), if_neg e]; omega
      · rw [if_neg h, if_neg (by omega : ¬ i < k + 1), if_neg e]; omega
theorem cntM_zero {m : Nat → Bool} : ∀ k, (∀ j, j < k → m j = false) → cntM m k = 0
  | 0, _ => rfl
  | k + 1, h => by rw [cntM, cntM_zero k fun j hj => h j (by omega), h k (by omega)]; rfl
theorem SR.tiles_mg {l : List Int} (h : ∀ t, t ∈ l → 1 ≤ t ∧ t ≤ 17) (h4 : l.length ≤ 4) : ∀ k, k ≤ l.length → cntM (SR.tiles l k).mg 4 + (SR.tiles l k).n = k
  | 0, _ => by
    show cntM (fun _ => false) 4 + ((0 : Nat) : Int) = ((0 : Nat) : Int)
    rw [cntM_zero 4 fun _ _ => rfl]; omega
  | k + 1, hk => by
    have ih := SR.tiles_mg h h4 k (by omega)
    have ok := SR.ok_tiles h k (by omega)
    rw [SR.tiles_succ (by omega)]
    unfold SR.step
    split
    · rename_i hm
      obtain ⟨a, b, c, d⟩ := SR.mer_true hm
      have := ok.n
      simp only [SR.merged]
      rw [cntM_set d 4, if_pos (by omega)]
      omega
    · simp only [SR.pushed]
      omega
theorem slid_mg {r : Nat → Int} (hr : ∀ i, i < 4 → 0 ≤ r i ∧ r i ≤ 17) : cntM (SR.slid r).mg 4 = nzR r - nzR (SR.slid r).out := by
  have h := SR.tiles_mg (tilesL_pos r hr) (tilesL_len r) _ (Nat.le_refl _)
  rw [← SR.slid_tiles] at h
  rw [← nzR_tiles, ← nzR_tiles, slid_len hr]
  omega
theorem lineOf_slB {b : Nat → Int} {d i k : Nat} (hd : d < 4) (hi : i < 4) (hk : k < 4) : lineOf (slB b d) d i k = (SR.slid (lineOf b d i)).out k := by
  unfold lineOf slB
  rw [lnI_at hd hi hk, lnK_at hd hi hk]; rfl
theorem nzR_slB {b : Nat → Int} {d i : Nat} (hd : d < 4) (hi : i < 4) : nzR (lineOf (slB b d) d i) = nzR (SR.slid (lineOf b d i)).out := by
  simp only [nzR]
  rw [lineOf_slB hd hi (by omega : 0 < 4), lineOf_slB hd hi (by omega : 1 < 4), lineOf_slB hd hi (by omega : 2 < 4), lineOf_slB hd hi (by omega : 3 < 4)]
/-- A slide makes as many mergers as tiles get fewer. -/
theorem mgTo_many {b : Nat → Int} {d : Nat} (hb : In17 b 16) (hd : d < 4) : mgTo b d 4 = mnB b 16 - mnB (slB b d) 16 := by
  rw [mnB_lines b hd, mnB_lines (slB b d) hd]
  rw [nzR_slB hd (by omega : 0 < 4), nzR_slB hd (by omega : 1 < 4), nzR_slB hd (by omega : 2 < 4), nzR_slB hd (by omega : 3 < 4)]
  simp only [mgTo]
  rw [slid_mg (lineOf_in hb (by omega : 0 < 4)), slid_mg (lineOf_in hb (by omega : 1 < 4)), slid_mg (lineOf_in hb (by omega : 2 < 4)), slid_mg (lineOf_in hb (by omega : 3 < 4))]
  omega

/-- Equal pairs side by side in a row. -/
def prT (r : Nat → Int) : Nat → Int
  | 0 => 0
  | k + 1 => prT r k + if r k = r (k + 1) ∧ 1 ≤ r k ∧ r k ≤ 16 then 1 else 0
theorem prT_le (r : Nat → Int) : ∀ k, 0 ≤ prT r k ∧ prT r k ≤ k
  | 0 => ⟨Int.le_refl _, Int.le_refl _⟩
  | k + 1 => by have := prT_le r k; simp only [prT]; split <;> omega
def prL (b : Nat → Int) (d : Nat) : Nat → Int
  | 0 => 0
  | i + 1 => prL b d i + prT (lineOf b d i) 3
theorem prL_le (b : Nat → Int) (d : Nat) : ∀ i, 0 ≤ prL b d i ∧ prL b d i ≤ 3 * i
  | 0 => ⟨Int.le_refl _, Int.le_refl _⟩
  | i + 1 => by have := prL_le b d i; have := prT_le (lineOf b d i) 3; simp only [prL]; omega
/-- The pairs of a board as the reference counts them. -/
def prS (b : Nat → Int) : Nat → Int
  | 0 => 0
  | i + 1 => prS b i + prT (lineOf b 0 i) 3 + prT (lineOf b 1 i) 3
theorem prS_eq (b : Nat → Int) : ∀ i, prS b i = prL b 0 i + prL b 1 i
  | 0 => rfl
  | i + 1 => by rw [prS, prL, prL, prS_eq b i]; omega

/-- The greatest number among the first n cells, and the first place that has it. -/
def hiT (b : Nat → Int) : Nat → Int
  | 0 => 0
  | n + 1 => if hiT b n < b n then b n else hiT b n
def hiP (b : Nat → Int) : Nat → Nat
  | 0 => 0
  | n + 1 => if hiT b n < b n then n else hiP b n
theorem hiT_ge (b : Nat → Int) : ∀ n, 0 ≤ hiT b n ∧ ∀ p, p < n → b p ≤ hiT b n
  | 0 => ⟨Int.le_refl _, fun p hp => absurd hp (Nat.not_lt_zero _)⟩
  | n + 1 => by
    have ih := hiT_ge b n
    refine ⟨?_, fun p hp => ?_⟩
    · simp only [hiT]; split <;> omega
    · by_cases e : p = n
      · subst e; simp only [hiT]; split <;> omega
      · have := ih.2 p (by omega)
        simp only [hiT]; split <;> omega
theorem hiP_lt (b : Nat → Int) : ∀ n, hiP b n < n + 1
  | 0 => by simp [hiP]
  | n + 1 => by have := hiP_lt b n; simp only [hiP]; split <;> omega
theorem hiT_zero {b : Nat → Int} : ∀ n, (∀ p, p < n → b p = 0) → hiT b n = 0 ∧ hiP b n = 0
  | 0, _ => ⟨rfl, rfl⟩
  | n + 1, h => by
    have ih := hiT_zero n fun p hp => h p (by omega)
    have := h n (by omega)
    simp only [hiT, hiP]
    rw [if_neg (by omega), if_neg (by omega)]
    exact ih
theorem hiT_le {b : Nat → Int} : ∀ n, (∀ p, p < n → b p ≤ 17) → hiT b n ≤ 17
  | 0, _ => by simp [hiT]
  | n + 1, h => by
    have := hiT_le n fun p hp => h p (by omega)
    have := h n (by omega)
    simp only [hiT]; split <;> omega

/-- The sum of the worths of the first n cells. -/
def wth (t : Int) : Int := if t = 0 then 0 else wrt t
def smT (b : Nat → Int) : Nat → Int
  | 0 => 0
  | n + 1 => smT b n + wth (b n)
theorem wth_le {t : Int} (h : t ≤ 17) : 0 ≤ wth t ∧ wth t ≤ 262144 := by
  unfold wth; split
  · omega
  · exact wrt_le (by omega)
theorem smT_le {b : Nat → Int} (hb : In17 b 16) : ∀ n, n ≤ 16 → 0 ≤ smT b n ∧ smT b n ≤ 262144 * n
  | 0, _ => ⟨Int.le_refl _, Int.le_refl _⟩
  | n + 1, hn => by
    have := smT_le hb n (by omega)
    have := wth_le (hb n (by omega)).2
    simp only [smT]; omega

/-- How many of the first n cells hold t. -/
def ctT (b : Nat → Int) (n t : Nat) : Int := (((List.range n).filter fun p => decide (b p = t)).length : Int)
theorem ctT_succ (b : Nat → Int) (n t : Nat) : ctT b (n + 1) t = ctT b n t + if b n = t then 1 else 0 := by
  unfold ctT
  rw [List.range_succ, List.filter_append]
  by_cases h : b n = t <;> simp [h]
theorem ctT_le (b : Nat → Int) (n t : Nat) : 0 ≤ ctT b n t ∧ ctT b n t ≤ n := by
  have := List.length_filter_le (fun p => decide (b p = t)) (List.range n)
  simp only [List.length_range] at this
  unfold ctT; omega

/-- The first place in which two boards part. -/
def fpT (a b : Nat → Int) : Nat → Option Nat
  | 0 => none
  | n + 1 => match fpT a b n with | some p => some p | none => if a n = b n then none else some n
theorem fpT_none {a b : Nat → Int} : ∀ {n : Nat}, fpT a b n = none → ∀ p, p < n → a p = b p
  | 0, _, p, hp => absurd hp (Nat.not_lt_zero _)
  | n + 1, h, p, hp => by
    simp only [fpT] at h
    split at h
    · cases h
    · rename_i h0
      split at h
      · rename_i h1
        by_cases e : p = n
        · subst e; exact h1
        · exact fpT_none h0 p (by omega)
      · cases h
theorem fpT_some {a b : Nat → Int} : ∀ {n q : Nat}, fpT a b n = some q → q < n ∧ a q ≠ b q ∧ ∀ p, p < q → a p = b p
  | 0, q, h => by cases h
  | n + 1, q, h => by
    simp only [fpT] at h
    split at h
    · rename_i h0
      cases h
      have := fpT_some h0
      exact ⟨by omega, this.2⟩
    · rename_i h0
      split at h
      · cases h
      · cases h
        exact ⟨by omega, ‹_›, fpT_none h0⟩
/-- -1, 0 or 1: how two boards compare. -/
def cmB (a b : Nat → Int) : Int := match fpT a b 16 with | none => 0 | some q => if a q < b q then -1 else 1
def ltB (a b : Nat → Int) : Bool := match fpT a b 16 with | none => false | some q => decide (a q < b q)
theorem cmB_lt (a b : Nat → Int) : decide (cmB a b < 0) = ltB a b := by
  unfold cmB ltB
  cases fpT a b 16 with
  | none => rfl
  | some q => by_cases h : a q < b q <;> simp [h]

end Go.Proofs.Ytmjehagmgifchaa
