/-
  Plain words: slides by a list, over and over, come back to a board that was there; a bound on when.
-/
import Derived.Test.YtjnmdhnckmmdnaaManyMath
namespace Go.Proofs.Ytjnmdhnckmmdnaa

theorem pigeon : ∀ (n : Nat) (f : Nat → Nat), (∀ i, i ≤ n → f i < n) → ∃ i j, i < j ∧ j ≤ n ∧ f i = f j
  | 0, f, h => absurd (h 0 (Nat.le_refl _)) (Nat.not_lt_zero _)
  | n + 1, f, h => by
    rcases Classical.em (∃ i, i ≤ n ∧ f i = f (n + 1)) with ⟨i, hi, he⟩ | hno
    · exact ⟨i, n + 1, by omega, Nat.le_refl _, he⟩
    · have hne : ∀ i, i ≤ n → f i ≠ f (n + 1) := fun i hi he => hno ⟨i, hi, he⟩
      obtain ⟨i, j, hij, hj, he⟩ := pigeon n (fun i => if f i = n then f (n + 1) else f i) (fun i hi => by
        have h1 := h i (by omega); have h2 := h (n + 1) (Nat.le_refl _); have h3 := hne i hi
        show (if f i = n then f (n + 1) else f i) < n
        split <;> omega)
      have h1 := hne i (by omega); have h2 := hne j hj
      refine ⟨i, j, hij, by omega, ?_⟩
      split at he <;> split at he <;> omega

def Eq16 (b c : Nat → Int) : Prop := ∀ p, p < 16 → b p = c p
theorem Eq16.refl (b : Nat → Int) : Eq16 b b := fun _ _ => rfl
theorem Eq16.symm {b c : Nat → Int} (h : Eq16 b c) : Eq16 c b := fun p hp => (h p hp).symm
theorem Eq16.trans {b c d : Nat → Int} (h : Eq16 b c) (k : Eq16 c d) : Eq16 b d := fun p hp => (h p hp).trans (k p hp)
theorem In17.congr {b c : Nat → Int} (h : In17 b 16) (e : Eq16 b c) : In17 c 16 := fun p hp => by rw [← e p hp]; exact h p hp

theorem SR.upto_congr {r s : Nat → Int} : ∀ n, (∀ k, k < n → r k = s k) → SR.upto r n = SR.upto s n
  | 0, _ => rfl
  | n + 1, h => by rw [SR.upto, SR.upto, SR.upto_congr n fun k hk => h k (by omega), h n (by omega)]
theorem lineOf_congr {b c : Nat → Int} (e : Eq16 b c) (d : Nat) {i : Nat} (hi : i < 4) : ∀ k, k < 4 → lineOf b d i k = lineOf c d i k :=
  fun _ hk => e _ (lineAt_lt hi hk)
theorem slB_congr {b c : Nat → Int} (e : Eq16 b c) (d : Nat) : Eq16 (slB b d) (slB c d) := fun p hp => by
  unfold slB SR.slid
  rw [SR.upto_congr 4 (lineOf_congr e d (lnI_lt hp))]

/-- The board behind the slides of a list. -/
def slL (b : Nat → Int) (l : List Nat) : Nat → Int := l.foldl slB b
theorem slL_congr {b c : Nat → Int} (e : Eq16 b c) (l : List Nat) : Eq16 (slL b l) (slL c l) := by
  induction l generalizing b c with
  | nil => exact e
  | cons d l ih => exact ih (slB_congr e d)
theorem slL_in {b : Nat → Int} (h : In17 b 16) (l : List Nat) : In17 (slL b l) 16 := by
  induction l generalizing b with
  | nil => exact h
  | cons d l ih => exact ih (slB_in h)
def itL (b : Nat → Int) (l : List Nat) : Nat → Nat → Int
  | 0 => b
  | n + 1 => slL (itL b l n) l
theorem itL_in {b : Nat → Int} (h : In17 b 16) (l : List Nat) : ∀ n, In17 (itL b l n) 16
  | 0 => h
  | n + 1 => slL_in (itL_in h l n) l
theorem itL_congr {b c : Nat → Int} (e : Eq16 b c) (l : List Nat) : ∀ n, Eq16 (itL b l n) (itL c l n)
  | 0 => e
  | n + 1 => slL_congr (itL_congr e l n) l
theorem itL_add (b : Nat → Int) (l : List Nat) (m : Nat) : ∀ n, itL b l (m + n) = itL (itL b l m) l n
  | 0 => rfl
  | n + 1 => by show slL (itL b l (m + n)) l = _; rw [itL_add b l m n]; rfl

/-- The places of a row's numbers behind a slide without a merger. -/
def rp (m0 m1 m2 m3 : Bool) (k : Nat) : Nat :=
  let m : Nat → Bool := fun j => match j with | 0 => m0 | 1 => m1 | 2 => m2 | _ => m3
  (((List.range 4).filter fun j => m j) ++ ((List.range 4).filter fun j => !m j)).getD k 0
theorem rp_lt : ∀ m0 m1 m2 m3 : Bool, ∀ k, k < 4 → rp m0 m1 m2 m3 k < 4 := by decide
theorem rp_inj : ∀ m0 m1 m2 m3 : Bool, ∀ k, k < 4 → ∀ j, j < 4 → rp m0 m1 m2 m3 k = rp m0 m1 m2 m3 j → k = j := by decide

theorem row_still {r : Nat → Int} (hr : ∀ i, i < 4 → 0 ≤ r i ∧ r i ≤ 17) (hn : (SR.slid r).n = (tilesL r).length) {k : Nat} (hk : k < 4) :
    (SR.slid r).out k = r (rp (decide (r 0 ≠ 0)) (decide (r 1 ≠ 0)) (decide (r 2 ≠ 0)) (decide (r 3 ≠ 0)) k) := by
  have h1 : (SR.slid r).out k = (tilesL r).getD k 0 := by
    rcases Nat.lt_or_ge k (tilesL r).length with h2 | h2
    · have := SR.tiles_full (tilesL_pos r hr) (tilesL r).length (Nat.le_refl _) (by rw [← SR.slid_tiles]; exact hn)
      rw [SR.slid_tiles]
      exact this.1 k h2
    · rw [(SR.slid_ok hr).zero k (by omega)]
      simp [h2]
  rw [h1]
  rcases (by omega : k = 0 ∨ k = 1 ∨ k = 2 ∨ k = 3) with rfl | rfl | rfl | rfl <;>
    by_cases z0 : r 0 = 0 <;> by_cases z1 : r 1 = 0 <;> by_cases z2 : r 2 = 0 <;> by_cases z3 : r 3 = 0 <;> simp [tilesL, rp, z0, z1, z2, z3, List.range_succ]

def sg (m : Nat → Bool) (d p : Nat) : Nat := lineAt d (lnI d p) (rp (m (lineAt d (lnI d p) 0)) (m (lineAt d (lnI d p) 1)) (m (lineAt d (lnI d p) 2)) (m (lineAt d (lnI d p) 3)) (lnK d p))
theorem lnK_lt4 {d p : Nat} (hp : p < 16) : lnK d p < 4 := by have := @lnK_lt d p; omega
theorem sg_lt (m : Nat → Bool) (d : Nat) {p : Nat} (hp : p < 16) : sg m d p < 16 :=
  lineAt_lt (lnI_lt hp) (rp_lt _ _ _ _ _ (lnK_lt4 hp))
theorem sg_inj (m : Nat → Bool) {d p q : Nat} (hd : d < 4) (hp : p < 16) (hq : q < 16) (h : sg m d p = sg m d q) : p = q := by
  have hp4 := rp_lt (m (lineAt d (lnI d p) 0)) (m (lineAt d (lnI d p) 1)) (m (lineAt d (lnI d p) 2)) (m (lineAt d (lnI d p) 3)) _ (@lnK_lt4 d p hp)
  have hq4 := rp_lt (m (lineAt d (lnI d q) 0)) (m (lineAt d (lnI d q) 1)) (m (lineAt d (lnI d q) 2)) (m (lineAt d (lnI d q) 3)) _ (@lnK_lt4 d q hq)
  have hi := congrArg (lnI d) h
  have hk := congrArg (lnK d) h
  unfold sg at hi hk
  rw [lnI_at hd (lnI_lt hp) hp4, lnI_at hd (lnI_lt hq) hq4] at hi
  rw [lnK_at hd (lnI_lt hp) hp4, lnK_at hd (lnI_lt hq) hq4] at hk
  rw [← hi] at hk
  have hkk := rp_inj _ _ _ _ _ (lnK_lt4 hp) _ (lnK_lt4 hq) hk
  rw [← at_lnIK hd hp, ← at_lnIK hd hq, hi, hkk]
def mk16 (b : Nat → Int) : Nat → Bool := fun p => decide (b p ≠ 0)
def EqM (m n : Nat → Bool) : Prop := ∀ p, p < 16 → m p = n p
theorem sg_congr {m n : Nat → Bool} (e : EqM m n) (d : Nat) {p : Nat} (hp : p < 16) : sg m d p = sg n d p := by
  unfold sg
  rw [e _ (lineAt_lt (lnI_lt hp) (by omega : 0 < 4)), e _ (lineAt_lt (lnI_lt hp) (by omega : 1 < 4)), e _ (lineAt_lt (lnI_lt hp) (by omega : 2 < 4)), e _ (lineAt_lt (lnI_lt hp) (by omega : 3 < 4))]

theorem nzR_slid_le {r : Nat → Int} (hr : ∀ i, i < 4 → 0 ≤ r i ∧ r i ≤ 17) : nzR (SR.slid r).out ≤ nzR r := by
  have := slid_mg hr; have := cntM_le (SR.slid r).mg 4; omega
theorem mnB_slB_le {b : Nat → Int} {d : Nat} (hb : In17 b 16) (hd : d < 4) : mnB (slB b d) 16 ≤ mnB b 16 := by
  have := mgTo_many hb hd; have := mgTo_le (b := b) (d := d) 4; omega
theorem slB_still {b : Nat → Int} {d : Nat} (hb : In17 b 16) (hd : d < 4) (h : mnB (slB b d) 16 = mnB b 16) {p : Nat} (hp : p < 16) : slB b d p = b (sg (mk16 b) d p) := by
  have hrow : ∀ i, i < 4 → (SR.slid (lineOf b d i)).n = (tilesL (lineOf b d i)).length := by
    rw [mnB_lines b hd, mnB_lines (slB b d) hd, nzR_slB hd (by omega : 0 < 4), nzR_slB hd (by omega : 1 < 4), nzR_slB hd (by omega : 2 < 4), nzR_slB hd (by omega : 3 < 4)] at h
    have a0 := nzR_slid_le (lineOf_in (d := d) hb (by omega : 0 < 4))
    have a1 := nzR_slid_le (lineOf_in (d := d) hb (by omega : 1 < 4))
    have a2 := nzR_slid_le (lineOf_in (d := d) hb (by omega : 2 < 4))
    have a3 := nzR_slid_le (lineOf_in (d := d) hb (by omega : 3 < 4))
    have key : ∀ i, i < 4 → nzR (SR.slid (lineOf b d i)).out = nzR (lineOf b d i) := by
      intro i hi
      rcases (by omega : i = 0 ∨ i = 1 ∨ i = 2 ∨ i = 3) with rfl | rfl | rfl | rfl <;> omega
    intro i hi
    have k1 := key i hi
    rw [← nzR_tiles, ← nzR_tiles, slid_len (lineOf_in hb hi)] at k1
    omega
  unfold slB
  rw [row_still (lineOf_in hb (lnI_lt hp)) (hrow _ (lnI_lt hp)) (lnK_lt4 hp)]
  rfl

/-- The places behind the slides of a list, without a merger. -/
def tau (m : Nat → Bool) : List Nat → Nat → Nat
  | [], p => p
  | d :: l, p => sg m d (tau (fun q => m (sg m d q)) l p)
theorem tau_lt : ∀ (l : List Nat) (m : Nat → Bool) {p : Nat}, p < 16 → tau m l p < 16
  | [], _, _, hp => hp
  | d :: l, m, _, hp => sg_lt m d (tau_lt l _ hp)
theorem tau_inj : ∀ (l : List Nat), (∀ d, d ∈ l → d < 4) → ∀ (m : Nat → Bool) {p q : Nat}, p < 16 → q < 16 → tau m l p = tau m l q → p = q
  | [], _, _, _, _, _, _, h => h
  | d :: l, hl, m, _, _, hp, hq, h =>
    tau_inj l (fun e he => hl e (List.mem_cons_of_mem _ he)) _ hp hq (sg_inj m (hl d (List.mem_cons_self ..)) (tau_lt l _ hp) (tau_lt l _ hq) h)
theorem tau_congr : ∀ (l : List Nat) {m n : Nat → Bool}, EqM m n → ∀ {p : Nat}, p < 16 → tau m l p = tau n l p
  | [], _, _, _, _, _ => rfl
  | d :: l, m, n, e, p, hp => by
    show sg m d (tau (fun q => m (sg m d q)) l p) = sg n d (tau (fun q => n (sg n d q)) l p)
    have e2 : EqM (fun q => m (sg m d q)) (fun q => n (sg n d q)) := fun q hq => by
      show m (sg m d q) = n (sg n d q)
      rw [sg_congr e d hq]; exact e _ (sg_lt n d hq)
    rw [tau_congr l e2 hp, sg_congr e d (tau_lt l _ hp)]
theorem mnB_slL_le : ∀ (l : List Nat), (∀ d, d ∈ l → d < 4) → ∀ {b : Nat → Int}, In17 b 16 → mnB (slL b l) 16 ≤ mnB b 16
  | [], _, _, _ => Int.le_refl _
  | d :: l, hl, b, hb => by
    have h1 := mnB_slL_le l (fun e he => hl e (List.mem_cons_of_mem _ he)) (slB_in (d := d) hb)
    have h2 := mnB_slB_le hb (hl d (List.mem_cons_self ..))
    show mnB (slL (slB b d) l) 16 ≤ _
    omega
theorem slL_still : ∀ (l : List Nat), (∀ d, d ∈ l → d < 4) → ∀ {b : Nat → Int}, In17 b 16 → mnB (slL b l) 16 = mnB b 16 → ∀ {p : Nat}, p < 16 → slL b l p = b (tau (mk16 b) l p)
  | [], _, _, _, _, _, _ => rfl
  | d :: l, hl, b, hb, h, p, hp => by
    have hd := hl d (List.mem_cons_self ..)
    have hl2 : ∀ e, e ∈ l → e < 4 := fun e he => hl e (List.mem_cons_of_mem _ he)
    have h1 := mnB_slL_le l hl2 (slB_in (d := d) hb)
    have h2 := mnB_slB_le hb hd
    have h3 : mnB (slL (slB b d) l) 16 = mnB b 16 := h
    have hs := fun {q : Nat} (hq : q < 16) => slB_still hb hd (by omega) hq
    have hm : EqM (mk16 (slB b d)) (fun q => mk16 b (sg (mk16 b) d q)) := fun q hq => by unfold mk16; rw [hs hq]; rfl
    show slL (slB b d) l p = b (sg (mk16 b) d (tau (fun q => mk16 b (sg (mk16 b) d q)) l p))
    rw [slL_still l hl2 (slB_in hb) (by omega) hp, hs (tau_lt l _ hp), tau_congr l hm hp]

/-- The places behind n slides by a list. -/
def tauN (l : List Nat) (m : Nat → Bool) : Nat → Nat → Nat
  | 0, p => p
  | n + 1, p => tauN l m n (tau (fun q => m (tauN l m n q)) l p)
theorem tauN_lt (l : List Nat) (m : Nat → Bool) : ∀ (n : Nat) {p : Nat}, p < 16 → tauN l m n p < 16
  | 0, _, hp => hp
  | n + 1, _, hp => tauN_lt l m n (tau_lt l _ hp)
theorem tauN_inj {l : List Nat} (hl : ∀ d, d ∈ l → d < 4) (m : Nat → Bool) : ∀ (n : Nat) {p q : Nat}, p < 16 → q < 16 → tauN l m n p = tauN l m n q → p = q
  | 0, _, _, _, _, h => h
  | n + 1, _, _, hp, hq, h => tau_inj l hl _ hp hq (tauN_inj hl m n (tau_lt l _ hp) (tau_lt l _ hq) h)
theorem tauN_congr (l : List Nat) {m n : Nat → Bool} (e : EqM m n) : ∀ (k : Nat) {p : Nat}, p < 16 → tauN l m k p = tauN l n k p
  | 0, _, _ => rfl
  | k + 1, p, hp => by
    have e2 : EqM (fun q => m (tauN l m k q)) (fun q => n (tauN l n k q)) := fun q hq => by
      show m (tauN l m k q) = n (tauN l n k q)
      rw [tauN_congr l e k hq]; exact e _ (tauN_lt l n k hq)
    show tauN l m k (tau (fun q => m (tauN l m k q)) l p) = tauN l n k (tau (fun q => n (tauN l n k q)) l p)
    rw [tau_congr l e2 hp, tauN_congr l e k (tau_lt l _ hp)]
theorem mnB_itL_le {l : List Nat} (hl : ∀ d, d ∈ l → d < 4) {b : Nat → Int} (hb : In17 b 16) (m : Nat) : ∀ n, mnB (itL b l (m + n)) 16 ≤ mnB (itL b l m) 16
  | 0 => Int.le_refl _
  | n + 1 => by
    have h1 := mnB_itL_le hl hb m n
    have h2 := mnB_slL_le l hl (itL_in hb l (m + n))
    show mnB (slL (itL b l (m + n)) l) 16 ≤ _
    omega
theorem itL_still {l : List Nat} (hl : ∀ d, d ∈ l → d < 4) {b : Nat → Int} (hb : In17 b 16) : ∀ (n : Nat), mnB (itL b l n) 16 = mnB b 16 → ∀ {p : Nat}, p < 16 → itL b l n p = b (tauN l (mk16 b) n p)
  | 0, _, _, _ => rfl
  | n + 1, h, p, hp => by
    have h1 := mnB_itL_le hl hb 0 n
    rw [Nat.zero_add] at h1
    have h1' : mnB (itL b l n) 16 ≤ mnB b 16 := h1
    have h2 := mnB_slL_le l hl (itL_in hb l n)
    have h3 : mnB (slL (itL b l n) l) 16 = mnB b 16 := h
    have ih := fun {q : Nat} (hq : q < 16) => itL_still hl hb n (by omega) hq
    have hm : EqM (mk16 (itL b l n)) (fun q => mk16 b (tauN l (mk16 b) n q)) := fun q hq => by unfold mk16; rw [ih hq]; rfl
    show slL (itL b l n) l p = _
    rw [slL_still l hl (itL_in hb l n) (by omega) hp, ih (tau_lt l _ hp), tau_congr l hm hp]
    rfl

/-- A map of 16 places that loses none, done 720720 times, moves nothing. -/
def itF (f : Nat → Nat) : Nat → Nat → Nat
  | 0, p => p
  | n + 1, p => itF f n (f p)
theorem itF_lt {f : Nat → Nat} (hf : ∀ p, p < 16 → f p < 16) : ∀ n p, p < 16 → itF f n p < 16
  | 0, _, hp => hp
  | n + 1, p, hp => itF_lt hf n _ (hf p hp)
theorem itF_add (f : Nat → Nat) (m : Nat) : ∀ n p, itF f (n + m) p = itF f m (itF f n p)
  | 0, p => by rw [Nat.zero_add]; rfl
  | n + 1, p => by rw [Nat.add_right_comm]; exact itF_add f m n (f p)
theorem itF_inj {f : Nat → Nat} (hf : ∀ p, p < 16 → f p < 16) (hi : ∀ p q, p < 16 → q < 16 → f p = f q → p = q) : ∀ n p q, p < 16 → q < 16 → itF f n p = itF f n q → p = q
  | 0, _, _, _, _, h => h
  | n + 1, p, q, hp, hq, h => hi p q hp hq (itF_inj hf hi n _ _ (hf p hp) (hf q hq) h)
theorem itF_mul {f : Nat → Nat} {n p : Nat} (h : itF f n p = p) : ∀ k, itF f (k * n) p = p
  | 0 => by rw [Nat.zero_mul]; rfl
  | k + 1 => by rw [Nat.succ_mul, Nat.add_comm, itF_add, h, itF_mul h k]
theorem div720 : ∀ n, 1 ≤ n → n ≤ 16 → 720720 / n * n = 720720 := by
  intro n h1 h2
  rcases (by omega : n = 1 ∨ n = 2 ∨ n = 3 ∨ n = 4 ∨ n = 5 ∨ n = 6 ∨ n = 7 ∨ n = 8 ∨ n = 9 ∨ n = 10 ∨ n = 11 ∨ n = 12 ∨ n = 13 ∨ n = 14 ∨ n = 15 ∨ n = 16) with rfl | rfl | rfl | rfl | rfl | rfl | rfl | rfl | rfl | rfl | rfl | rfl | rfl | rfl | rfl | rfl <;> rfl
theorem itF_home {f : Nat → Nat} (hf : ∀ p, p < 16 → f p < 16) (hi : ∀ p q, p < 16 → q < 16 → f p = f q → p = q) {p : Nat} (hp : p < 16) : itF f 720720 p = p := by
  obtain ⟨i, j, hij, hj, he⟩ := pigeon 16 (fun n => itF f n p) (fun n _ => itF_lt hf n p hp)
  obtain ⟨n, rfl⟩ : ∃ n, j = n + i := ⟨j - i, by omega⟩
  rw [itF_add] at he
  have h1 := itF_inj hf hi i _ _ hp (itF_lt hf n p hp) he
  have h2 := itF_mul h1.symm (720720 / n)
  rwa [div720 n (by omega) (by omega)] at h2

/-- The mask of a board as a number. -/
def codeM (m : Nat → Bool) : Nat → Nat
  | 0 => 0
  | n + 1 => 2 * codeM m n + if m n = true then 1 else 0
theorem codeM_lt (m : Nat → Bool) : ∀ n, codeM m n < 2 ^ n
  | 0 => by simp [codeM]
  | n + 1 => by have := codeM_lt m n; simp only [codeM, Nat.pow_succ]; split <;> omega
theorem codeM_inj {m k : Nat → Bool} : ∀ n, codeM m n = codeM k n → ∀ p, p < n → m p = k p
  | 0, _, p, hp => absurd hp (Nat.not_lt_zero _)
  | n + 1, h, p, hp => by
    simp only [codeM] at h
    have h1 : codeM m n = codeM k n := by split at h <;> split at h <;> omega
    by_cases e : p = n
    · subst e
      cases hm : m p <;> cases hk : k p <;> simp [hm, hk, h1] at h ⊢
    · exact codeM_inj n h1 p (by omega)

def turnN : Nat := 47233171457
theorem still_back {l : List Nat} (hl : ∀ d, d ∈ l → d < 4) {b : Nat → Int} (hb : In17 b 16) (h : mnB (itL b l turnN) 16 = mnB b 16) :
    ∃ i j, i < j ∧ j ≤ turnN ∧ Eq16 (itL b l i) (itL b l j) := by
  have hst : ∀ n, n ≤ turnN → mnB (itL b l n) 16 = mnB b 16 := by
    intro n hn
    have h1 := mnB_itL_le hl hb 0 n
    have h2 := mnB_itL_le hl hb n (turnN - n)
    rw [Nat.zero_add] at h1
    have h1' : mnB (itL b l n) 16 ≤ mnB b 16 := h1
    rw [show n + (turnN - n) = turnN by omega] at h2
    omega
  obtain ⟨i, j, hij, hj, he⟩ := pigeon 65536 (fun n => codeM (mk16 (itL b l n)) 16) (fun n _ => codeM_lt _ 16)
  have hm : EqM (mk16 (itL b l i)) (mk16 (itL b l j)) := codeM_inj 16 he
  obtain ⟨q, rfl⟩ : ∃ q, j = i + q := ⟨j - i, by omega⟩
  have hb' := itL_in hb l i
  have hk : ∀ k, i + k * q ≤ turnN → ∀ p, p < 16 → itL b l (i + k * q) p = itL b l i (itF (tauN l (mk16 (itL b l i)) q) k p) := by
    intro k
    induction k with
    | zero => intro _ p _; rw [Nat.zero_mul]; rfl
    | succ k ih =>
      intro hle p hp
      rw [Nat.succ_mul] at hle
      have ih := ih (by omega)
      rw [Nat.succ_mul, ← Nat.add_assoc, itL_add]
      have hb2 := itL_in hb l (i + k * q)
      have e0 := itL_still hl hb2 q (by rw [← itL_add, hst _ (by omega), hst _ (by omega)]) hp
      have hq : ∀ p, p < 16 → itL b l (i + q) p = itL b l i (tauN l (mk16 (itL b l i)) q p) := by
        intro p hp
        rw [itL_add]
        exact itL_still hl hb' q (by rw [← itL_add, hst _ (by omega), hst _ (by omega)]) hp
      have hmm : ∀ p, p < 16 → mk16 (itL b l i) (tauN l (mk16 (itL b l i)) q p) = mk16 (itL b l i) p := by
        intro p hp
        rw [hm p hp]
        unfold mk16
        rw [hq p hp]; rfl
      have hmk : ∀ n p, p < 16 → mk16 (itL b l i) (itF (tauN l (mk16 (itL b l i)) q) n p) = mk16 (itL b l i) p := by
        intro n
        induction n with
        | zero => intro p _; rfl
        | succ n ih2 => intro p hp; exact (ih2 _ (tauN_lt l _ q hp)).trans (hmm p hp)
      have hm2 : EqM (mk16 (itL b l (i + k * q))) (mk16 (itL b l i)) := fun p hp => by
        have h1 : mk16 (itL b l (i + k * q)) p = mk16 (itL b l i) (itF (tauN l (mk16 (itL b l i)) q) k p) := congrArg (fun x : Int => decide (x ≠ 0)) (ih p hp)
        rw [h1, hmk k p hp]
      rw [e0, tauN_congr l hm2 q hp, ih _ (tauN_lt l _ q hp)]
      rfl
  refine ⟨i, i + 720720 * q, by omega, by unfold turnN; omega, fun p hp => ?_⟩
  rw [hk 720720 (by unfold turnN; omega) p hp, itF_home (fun p hp => tauN_lt l _ q hp) (fun p q' hp hq' h => tauN_inj hl _ q hp hq' h) hp]
theorem mnB_lo (b : Nat → Int) : ∀ n, 0 ≤ mnB b n ∧ mnB b n ≤ n
  | 0 => ⟨Int.le_refl _, Int.le_refl _⟩
  | n + 1 => by have := mnB_lo b n; have := nz_le (b n); simp only [mnB]; omega
def cycN : Nat := 17 * turnN
/-- Slides by a list come back to a board that was there within cycN times. -/
theorem cycles {l : List Nat} (hl : ∀ d, d ∈ l → d < 4) {b : Nat → Int} (hb : In17 b 16) : ∃ i j, i < j ∧ j ≤ cycN ∧ Eq16 (itL b l i) (itL b l j) := by
  have key : ∀ (k : Nat), (∃ i j, i < j ∧ j ≤ k * turnN ∧ Eq16 (itL b l i) (itL b l j)) ∨ mnB (itL b l (k * turnN)) 16 + k ≤ mnB b 16 := by
    intro k
    induction k with
    | zero => right; rw [Nat.zero_mul]; show mnB b 16 + ((0 : Nat) : Int) ≤ _; omega
    | succ k ih =>
      rcases ih with ⟨i, j, h1, h2, h3⟩ | ih
      · exact .inl ⟨i, j, h1, by rw [Nat.succ_mul]; omega, h3⟩
      · have h1 := mnB_itL_le hl hb (k * turnN) turnN
        rw [Nat.succ_mul]
        by_cases e : mnB (itL b l (k * turnN + turnN)) 16 = mnB (itL b l (k * turnN)) 16
        · left
          obtain ⟨i, j, a, c, d⟩ := still_back hl (itL_in hb l (k * turnN)) (by rw [← itL_add]; exact e)
          refine ⟨k * turnN + i, k * turnN + j, by omega, by omega, ?_⟩
          rw [itL_add, itL_add]; exact d
        · right
          have : ((k + 1 : Nat) : Int) = k + 1 := by omega
          rw [this]
          omega
  rcases key 17 with h | h
  · exact h
  · have h1 := mnB_lo (itL b l (17 * turnN)) 16
    have h2 := mnB_lo b 16
    omega

end Go.Proofs.Ytjnmdhnckmmdnaa
