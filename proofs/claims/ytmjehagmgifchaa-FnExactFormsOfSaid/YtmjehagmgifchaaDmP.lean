/-
  Plain words: slides by a list, over and over, come back to a board that was there; a bound on when.
-/
import Derived.Test.YtmjehagmgifchaaManyMath
import Derived.Test.YtmjehagmgifchaaBoard2
import Derived.Deep.WholeRow
import Derived.Deep.RegionHeld3
import Derived.Test.YtmjehagmgifchaaEqlB
import Derived.Test.YtmjehagmgifchaaOwn
import Derived.Test.YtmjehagmgifchaaFfWords
import Derived.Test.YtmjehagmgifchaaTkWords
namespace Go.Proofs.Ytmjehagmgifchaa

theorem pigeon : ∀ (n : Nat) (f : Nat → Nat), (∀ i, i ≤ n → f i < n) → ∃ i j, i < j ∧ j ≤ n ∧ f i = f j
  | 0, f, h => absurd (h 0 (Nat.le_refl _)) (Nat.not_lt_zero _)
  | n + 1, f, h => by
    rcases Classical.em (∃ i, i ≤ n ∧ f i = f (n + 1)) with ⟨i, hi, he⟩ | hno
    · exact ⟨i, n + 1, by omega, Nat.le_refl _, he⟩
    · have hne : ∀ i, i ≤ n → f i ≠ f (n + 1) := fun i hi he => hno ⟨i, hi, he⟩
      obtain ⟨i, j, hij, hj, he⟩ := pigeon n (fun i => if f i = n then f (n + 1) else f i) (fun i hi => by
        have h1 := h i (by omega); have h2 := h (n + 1) (Nat.le_refl _); have h3 := hne i hi
        show (if f i = n then f (n + 1) else f i) < n
        split <;> omega)
      have h1 := hne i (by omega); have h2 := hne j hj
      refine ⟨i, j, hij, by omega, ?_⟩
      split at he <;> split at he <;> omega

def Eq16 (b c : Nat → Int) : Prop := ∀ p, p < 16 → b p = c p
theorem Eq16.refl (b : Nat → Int) : Eq16 b b := fun _ _ => rfl
theorem Eq16.symm {b c : Nat → Int} (h : Eq16 b c) : Eq16 c b := fun p hp => (h p hp).symm
theorem Eq16.trans {b c d : Nat → Int} (h : Eq16 b c) (k : Eq16 c d) : Eq16 b d := fun p hp => (h p hp).trans (k p hp)
theorem In17.congr {b c : Nat → Int} (h : In17 b 16) (e : Eq16 b c) : In17 c 16 := fun p hp => by rw [← e p hp]; exact h p hp

theorem SR.upto_congr {r s : Nat → Int} : ∀ n, (∀ k, k < n → r k = s k) → SR.upto r n = SR.upto s n
  | 0, _ => rfl
  | n + 1, h => by rw [SR.upto, SR.upto, SR.upto_congr n fun k hk => h k (by omega), h n (by omega)]
theorem lineOf_congr {b c : Nat → Int} (e : Eq16 b c) (d : Nat) {i : Nat} (hi : i < 4) : ∀ k, k < 4 → lineOf b d i k = lineOf c d i k :=
  fun _ hk => e _ (lineAt_lt hi hk)
theorem slB_congr {b c : Nat → Int} (e : Eq16 b c) (d : Nat) : Eq16 (slB b d) (slB c d) := fun p hp => by
  unfold slB SR.slid
  rw [SR.upto_congr 4 (lineOf_congr e d (lnI_lt hp))]

/-- The board behind the slides of a list. -/
def slL (b : Nat → Int) (l : List Nat) : Nat → Int := l.foldl slB b
theorem slL_congr {b c : Nat → Int} (e : Eq16 b c) (l : List Nat) : Eq16 (slL b l) (slL c l) := by
  induction l generalizing b c with
  | nil => exact e
  | cons d l ih => exact ih (slB_congr e d)
theorem slL_in {b : Nat → Int} (h : In17 b 16) (l : List Nat) : In17 (slL b l) 16 := by
  induction l generalizing b with
  | nil => exact h
  | cons d l ih => exact ih (slB_in h)
def itL (b : Nat → Int) (l : List Nat) : Nat → Nat → Int
  | 0 => b
  | n + 1 => slL (itL b l n) l
theorem itL_in {b : Nat → Int} (h : In17 b 16) (l : List Nat) : ∀ n, In17 (itL b l n) 16
  | 0 => h
  | n + 1 => slL_in (itL_in h l n) l
theorem itL_congr {b c : Nat → Int} (e : Eq16 b c) (l : List Nat) : ∀ n, Eq16 (itL b l n) (itL c l n)
  | 0 => e
  | n + 1 => slL_congr (itL_congr e l n) l
theorem itL_add (b : Nat → Int) (l : List Nat) (m : Nat) : ∀ n, itL b l (m + n) = itL (itL b l m) l n
  | 0 => rfl
  | n + 1 => by show slL (itL b l (m + n)) l = _; rw [itL_add b l m n]; rfl

/-- The places of a row's numbers behind a slide without a merger. -/
def rp (m0 m1 m2 m3 : Bool) (k : Nat) : Nat :=
  let m : Nat → Bool := fun j => match j with | 0 => m0 | 1 => m1 | 2 => m2 | _ => m3
  (((List.range 4).filter fun j => m j) ++ ((List.range 4).filter fun j => !m j)).getD k 0
theorem rp_lt : ∀ m0 m1 m2 m3 : Bool, ∀ k, k < 4 → rp m0 m1 m2 m3 k < 4 := by decide
theorem rp_inj : ∀ m0 m1 m2 m3 : Bool, ∀ k, k < 4 → ∀ j, j < 4 → rp m0 m1 m2 m3 k = rp m0 m1 m2 m3 j → k = j := by decide

theorem row_still {r : Nat → Int} (hr : ∀ i, i < 4 → 0 ≤ r i ∧ r i ≤ 17) (hn : (SR.slid r).n = (tilesL r).length) {k : Nat} (hk : k < 4) :
    (SR.slid r).out k = r (rp (decide (r 0 ≠ 0)) (decide (r 1 ≠ 0)) (decide (r 2 ≠ 0)) (decide (r 3 ≠ 0)) k) := by
  have h1 : (SR.slid r).out k = (tilesL r).getD k 0 := by
    rcases Nat.lt_or_ge k (tilesL r).length with h2 | h2
    · have := SR.tiles_full (tilesL_pos r hr) (tilesL r).length (Nat.le_refl _) (by rw [← SR.slid_tiles]; exact hn)
      rw [SR.slid_tiles]
      exact this.1 k h2
    · rw [(SR.slid_ok hr).zero k (by omega)]
      simp [h2]
  rw [h1]
  rcases (by omega : k = 0 ∨ k = 1 ∨ k = 2 ∨ k = 3) with rfl | rfl | rfl | rfl <;>
    by_cases z0 : r 0 = 0 <;> by_cases z1 : r 1 = 0 <;> by_cases z2 : r 2 = 0 <;> by_cases z3 : r 3 = 0 <;> simp [tilesL, rp, z0, z1, z2, z3, List.range_succ]

def sg (m : Nat → Bool) (d p : Nat) : Nat := lineAt d (lnI d p) (rp (m (lineAt d (lnI d p) 0)) (m (lineAt d (lnI d p) 1)) (m (lineAt d (lnI d p) 2)) (m (lineAt d (lnI d p) 3)) (lnK d p))
theorem lnK_lt4 {d p : Nat} (hp : p < 16) : lnK d p < 4 := by have := @lnK_lt d p; omega
theorem sg_lt (m : Nat → Bool) (d : Nat) {p : Nat} (hp : p < 16) : sg m d p < 16 :=
  lineAt_lt (lnI_lt hp) (rp_lt _ _ _ _ _ (lnK_lt4 hp))
theorem sg_inj (m : Nat → Bool) {d p q : Nat} (hd : d < 4) (hp : p < 16) (hq : q < 16) (h : sg m d p = sg m d q) : p = q := by
  have hp4 := rp_lt (m (lineAt d (lnI d p) 0)) (m (lineAt d (lnI d p) 1)) (m (lineAt d (lnI d p) 2)) (m (lineAt d (lnI d p) 3)) _ (@lnK_lt4 d p hp)
  have hq4 := rp_lt (m (lineAt d (lnI d q) 0)) (m (lineAt d (lnI d q) 1)) (m (lineAt d (lnI d q) 2)) (m (lineAt d (lnI d q) 3)) _ (@lnK_lt4 d q hq)
  have hi := congrArg (lnI d) h
  have hk := congrArg (lnK d) h
  unfold sg at hi hk
  rw [lnI_at hd (lnI_lt hp) hp4, lnI_at hd (lnI_lt hq) hq4] at hi
  rw [lnK_at hd (lnI_lt hp) hp4, lnK_at hd (lnI_lt hq) hq4] at hk
  rw [← hi] at hk
  have hkk := rp_inj _ _ _ _ _ (lnK_lt4 hp) _ (lnK_lt4 hq) hk
  rw [← at_lnIK hd hp, ← at_lnIK hd hq, hi, hkk]
def mk16 (b : Nat → Int) : Nat → Bool := fun p => decide (b p ≠ 0)
def EqM (m n : Nat → Bool) : Prop := ∀ p, p < 16 → m p = n p
theorem sg_congr {m n : Nat → Bool} (e : EqM m n) (d : Nat) {p : Nat} (hp : p < 16) : sg m d p = sg n d p := by
  unfold sg
  rw [e _ (lineAt_lt (lnI_lt hp) (by omega : 0 < 4)), e _ (lineAt_lt (lnI_lt hp) (by omega : 1 < 4)), e _ (lineAt_lt (lnI_lt hp) (by omega : 2 < 4)), e _ (lineAt_lt (lnI_lt hp) (by omega : 3 < 4))]

theorem nzR_slid_le {r : Nat → Int} (hr : ∀ i, i < 4 → 0 ≤ r i ∧ r i ≤ 17) : nzR (SR.slid r).out ≤ nzR r := by
  have := slid_mg hr; have := cntM_le (SR.slid r).mg 4; omega
theorem mnB_slB_le {b : Nat → Int} {d : Nat} (hb : In17 b 16) (hd : d < 4) : mnB (slB b d) 16 ≤ mnB b 16 := by
  have := mgTo_many hb hd; have := mgTo_le (b := b) (d := d) 4; omega
theorem slB_still {b : Nat → Int} {d : Nat} (hb : In17 b 16) (hd : d < 4) (h : mnB (slB b d) 16 = mnB b 16) {p : Nat} (hp : p < 16) : slB b d p = b (sg (mk16 b) d p) := by
  have hrow : ∀ i, i < 4 → (SR.slid (lineOf b d i)).n = (tilesL (lineOf b d i)).length := by
    rw [mnB_lines b hd, mnB_lines (slB b d) hd, nzR_slB hd (by omega : 0 < 4), nzR_slB hd (by omega : 1 < 4), nzR_slB hd (by omega : 2 < 4), nzR_slB hd (by omega : 3 < 4)] at h
    have a0 := nzR_slid_le (lineOf_in (d := d) hb (by omega : 0 < 4))
    have a1 := nzR_slid_le (lineOf_in (d := d) hb (by omega : 1 < 4))
    have a2 := nzR_slid_le (lineOf_in (d := d) hb (by omega : 2 < 4))
    have a3 := nzR_slid_le (lineOf_in (d := d) hb (by omega : 3 < 4))
    have key : ∀ i, i < 4 → nzR (SR.slid (lineOf b d i)).out = nzR (lineOf b d i) := by
      intro i hi
      rcases (by omega : i = 0 ∨ i = 1 ∨ i = 2 ∨ i = 3) with rfl | rfl | rfl | rfl <;> omega
    intro i hi
    have k1 := key i hi
    rw [← nzR_tiles, ← nzR_tiles, slid_len (lineOf_in hb hi)] at k1
    omega
  unfold slB
  rw [row_still (lineOf_in hb (lnI_lt hp)) (hrow _ (lnI_lt hp)) (lnK_lt4 hp)]
  rfl

/-- The places behind the slides of a list, without a merger. -/
def tau (m : Nat → Bool) : List Nat → Nat → Nat
  | [], p => p
  | d :: l, p => sg m d (tau (fun q => m (sg m d q)) l p)
theorem tau_lt : ∀ (l : List Nat) (m : Nat → Bool) {p : Nat}, p < 16 → tau m l p < 16
  | [], _, _, hp => hp
  | d :: l, m, _, hp => sg_lt m d (tau_lt l _ hp)
theorem tau_inj : ∀ (l : List Nat), (∀ d, d ∈ l → d < 4) → ∀ (m : Nat → Bool) {p q : Nat}, p < 16 → q < 16 → tau m l p = tau m l q → p = q
  | [], _, _, _, _, _, _, h => h
  | d :: l, hl, m, _, _, hp, hq, h =>
    tau_inj l (fun e he => hl e (List.mem_cons_of_mem _ he)) _ hp hq (sg_inj m (hl d (List.mem_cons_self ..)) (tau_lt l _ hp) (tau_lt l _ hq) h)
theorem tau_congr : ∀ (l : List Nat) {m n : Nat → Bool}, EqM m n → ∀ {p : Nat}, p < 16 → tau m l p = tau n l p
  | [], _, _, _, _, _ => rfl
  | d :: l, m, n, e, p, hp => by
    show sg m d (tau (fun q => m (sg m d q)) l p) = sg n d (tau (fun q => n (sg n d q)) l p)
    have e2 : EqM (fun q => m (sg m d q)) (fun q => n (sg n d q)) := fun q hq => by
      show m (sg m d q) = n (sg n d q)
      rw [sg_congr e d hq]; exact e _ (sg_lt n d hq)
    rw [tau_congr l e2 hp, sg_congr e d (tau_lt l _ hp)]
theorem mnB_slL_le : ∀ (l : List Nat), (∀ d, d ∈ l → d < 4) → ∀ {b : Nat → Int}, In17 b 16 → mnB (slL b l) 16 ≤ mnB b 16
  | [], _, _, _ => Int.le_refl _
  | d :: l, hl, b, hb => by
    have h1 := mnB_slL_le l (fun e he => hl e (List.mem_cons_of_mem _ he)) (slB_in (d := d) hb)
    have h2 := mnB_slB_le hb (hl d (List.mem_cons_self ..))
    show mnB (slL (slB b d) l) 16 ≤ _
    omega
theorem slL_still : ∀ (l : List Nat), (∀ d, d ∈ l → d < 4) → ∀ {b : Nat → Int}, In17 b 16 → mnB (slL b l) 16 = mnB b 16 → ∀ {p : Nat}, p < 16 → slL b l p = b (tau (mk16 b) l p)
  | [], _, _, _, _, _, _ => rfl
  | d :: l, hl, b, hb, h, p, hp => by
    have hd := hl d (List.mem_cons_self ..)
    have hl2 : ∀ e, e ∈ l → e < 4 := fun e he => hl e (List.mem_cons_of_mem _ he)
    have h1 := mnB_slL_le l hl2 (slB_in (d := d) hb)
    have h2 := mnB_slB_le hb hd
    have h3 : mnB (slL (slB b d) l) 16 = mnB b 16 := h
    have hs := fun {q : Nat} (hq : q < 16) => slB_still hb hd (by omega) hq
    have hm : EqM (mk16 (slB b d)) (fun q => mk16 b (sg (mk16 b) d q)) := fun q hq => by unfold mk16; rw [hs hq]; rfl
    show slL (slB b d) l p = b (sg (mk16 b) d (tau (fun q => mk16 b (sg (mk16 b) d q)) l p))
    rw [slL_still l hl2 (slB_in hb) (by omega) hp, hs (tau_lt l _ hp), tau_congr l hm hp]

/-- The places behind n slides by a list. -/
def tauN (l : List Nat) (m : Nat → Bool) : Nat → Nat → Nat
  | 0, p => p
  | n + 1, p => tauN l m n (tau (fun q => m (tauN l m n q)) l p)
theorem tauN_lt (l : List Nat) (m : Nat → Bool) : ∀ (n : Nat) {p : Nat}, p < 16 → tauN l m n p < 16
  | 0, _, hp => hp
  | n + 1, _, hp => tauN_lt l m n (tau_lt l _ hp)
theorem tauN_inj {l : List Nat} (hl : ∀ d, d ∈ l → d < 4) (m : Nat → Bool) : ∀ (n : Nat) {p q : Nat}, p < 16 → q < 16 → tauN l m n p = tauN l m n q → p = q
  | 0, _, _, _, _, h => h
  | n + 1, _, _, hp, hq, h => tau_inj l hl _ hp hq (tauN_inj hl m n (tau_lt l _ hp) (tau_lt l _ hq) h)
theorem tauN_congr (l : List Nat) {m n : Nat → Bool} (e : EqM m n) : ∀ (k : Nat) {p : Nat}, p < 16 → tauN l m k p = tauN l n k p
  | 0, _, _ => rfl
  | k + 1, p, hp => by
    have e2 : EqM (fun q => m (tauN l m k q)) (fun q => n (tauN l n k q)) := fun q hq => by
      show m (tauN l m k q) = n (tauN l n k q)
      rw [tauN_congr l e k hq]; exact e _ (tauN_lt l n k hq)
    show tauN l m k (tau (fun q => m (tauN l m k q)) l p) = tauN l n k (tau (fun q => n (tauN l n k q)) l p)
    rw [tau_congr l e2 hp, tauN_congr l e k (tau_lt l _ hp)]
theorem mnB_itL_le {l : List Nat} (hl : ∀ d, d ∈ l → d < 4) {b : Nat → Int} (hb : In17 b 16) (m : Nat) : ∀ n, mnB (itL b l (m + n)) 16 ≤ mnB (itL b l m) 16
  | 0 => Int.le_refl _
  | n + 1 => by
    have h1 := mnB_itL_le hl hb m n
    have h2 := mnB_slL_le l hl (itL_in hb l (m + n))
    show mnB (slL (itL b l (m + n)) l) 16 ≤ _
    omega
theorem itL_still {l : List Nat} (hl : ∀ d, d ∈ l → d < 4) {b : Nat → Int} (hb : In17 b 16) : ∀ (n : Nat), mnB (itL b l n) 16 = mnB b 16 → ∀ {p : Nat}, p < 16 → itL b l n p = b (tauN l (mk16 b) n p)
  | 0, _, _, _ => rfl
  | n + 1, h, p, hp => by
    have h1 := mnB_itL_le hl hb 0 n
    rw [Nat.zero_add] at h1
    have h1' : mnB (itL b l n) 16 ≤ mnB b 16 := h1
    have h2 := mnB_slL_le l hl (itL_in hb l n)
    have h3 : mnB (slL (itL b l n) l) 16 = mnB b 16 := h
    have ih := fun {q : Nat} (hq : q < 16) => itL_still hl hb n (by omega) hq
    have hm : EqM (mk16 (itL b l n)) (fun q => mk16 b (tauN l (mk16 b) n q)) := fun q hq => by unfold mk16; rw [ih hq]; rfl
    show slL (itL b l n) l p = _
    rw [slL_still l hl (itL_in hb l n) (by omega) hp, ih (tau_lt l _ hp), tau_congr l hm hp]
    rfl

/-- A map of 16 places that loses none, done 720720 times, moves nothing. -/
def itF (f : Nat → Nat) : Nat → Nat → Nat
  | 0, p => p
  | n + 1, p => itF f n (f p)
theorem itF_lt {f : Nat → Nat} (hf : ∀ p, p < 16 → f p < 16) : ∀ n p, p < 16 → itF f n p < 16
  | 0, _, hp => hp
  | n + 1, p, hp => itF_lt hf n _ (hf p hp)
theorem itF_add (f : Nat → Nat) (m : Nat) : ∀ n p, itF f (n + m) p = itF f m (itF f n p)
  | 0, p => by rw [Nat.zero_add]; rfl
  | n + 1, p => by rw [Nat.add_right_comm]; exact itF_add f m n (f p)
theorem itF_inj {f : Nat → Nat} (hf : ∀ p, p < 16 → f p < 16) (hi : ∀ p q, p < 16 → q < 16 → f p = f q → p = q) : ∀ n p q, p < 16 → q < 16 → itF f n p = itF f n q → p = q
  | 0, _, _, _, _, h => h
  | n + 1, p, q, hp, hq, h => hi p q hp hq (itF_inj hf hi n _ _ (hf p hp) (hf q hq) h)
theorem itF_mul {f : Nat → Nat} {n p : Nat} (h : itF f n p = p) : ∀ k, itF f (k * n) p = p
  | 0 => by rw [Nat.zero_mul]; rfl
  | k + 1 => by rw [Nat.succ_mul, Nat.add_comm, itF_add, h, itF_mul h k]
theorem div720 : ∀ n, 1 ≤ n → n ≤ 16 → 720720 / n * n = 720720 := by
  intro n h1 h2
  rcases (by omega : n = 1 ∨ n = 2 ∨ n = 3 ∨ n = 4 ∨ n = 5 ∨ n = 6 ∨ n = 7 ∨ n = 8 ∨ n = 9 ∨ n = 10 ∨ n = 11 ∨ n = 12 ∨ n = 13 ∨ n = 14 ∨ n = 15 ∨ n = 16) with rfl | rfl | rfl | rfl | rfl | rfl | rfl | rfl | rfl | rfl | rfl | rfl | rfl | rfl | rfl | rfl <;> rfl
theorem itF_home {f : Nat → Nat} (hf : ∀ p, p < 16 → f p < 16) (hi : ∀ p q, p < 16 → q < 16 → f p = f q → p = q) {p : Nat} (hp : p < 16) : itF f 720720 p = p := by
  obtain ⟨i, j, hij, hj, he⟩ := pigeon 16 (fun n => itF f n p) (fun n _ => itF_lt hf n p hp)
  obtain ⟨n, rfl⟩ : ∃ n, j = n + i := ⟨j - i, by omega⟩
  rw [itF_add] at he
  have h1 := itF_inj hf hi i _ _ hp (itF_lt hf n p hp) he
  have h2 := itF_mul h1.symm (720720 / n)
  rwa [div720 n (by omega) (by omega)] at h2

/-- The mask of a board as a number. -/
def codeM (m : Nat → Bool) : Nat → Nat
  | 0 => 0
  | n + 1 => 2 * codeM m n + if m n = true then 1 else 0
theorem codeM_lt (m : Nat → Bool) : ∀ n, codeM m n < 2 ^ n
  | 0 => by simp [codeM]
  | n + 1 => by have := codeM_lt m n; simp only [codeM, Nat.pow_succ]; split <;> omega
theorem codeM_inj {m k : Nat → Bool} : ∀ n, codeM m n = codeM k n → ∀ p, p < n → m p = k p
  | 0, _, p, hp => absurd hp (Nat.not_lt_zero _)
  | n + 1, h, p, hp => by
    simp only [codeM] at h
    have h1 : codeM m n = codeM k n := by split at h <;> split at h <;> omega
    by_cases e : p = n
    · subst e
      cases hm : m p <;> cases hk : k p <;> simp [hm, hk, h1] at h ⊢
    · exact codeM_inj n h1 p (by omega)

def turnN : Nat := 47233171457
theorem still_back {l : List Nat} (hl : ∀ d, d ∈ l → d < 4) {b : Nat → Int} (hb : In17 b 16) (h : mnB (itL b l turnN) 16 = mnB b 16) :
    ∃ i j, i < j ∧ j ≤ turnN ∧ Eq16 (itL b l i) (itL b l j) := by
  have hst : ∀ n, n ≤ turnN → mnB (itL b l n) 16 = mnB b 16 := by
    intro n hn
    have h1 := mnB_itL_le hl hb 0 n
    have h2 := mnB_itL_le hl hb n (turnN - n)
    rw [Nat.zero_add] at h1
    have h1' : mnB (itL b l n) 16 ≤ mnB b 16 := h1
    rw [show n + (turnN - n) = turnN by omega] at h2
    omega
  obtain ⟨i, j, hij, hj, he⟩ := pigeon 65536 (fun n => codeM (mk16 (itL b l n)) 16) (fun n _ => codeM_lt _ 16)
  have hm : EqM (mk16 (itL b l i)) (mk16 (itL b l j)) := codeM_inj 16 he
  obtain ⟨q, rfl⟩ : ∃ q, j = i + q := ⟨j - i, by omega⟩
  have hb' := itL_in hb l i
  have hk : ∀ k, i + k * q ≤ turnN → ∀ p, p < 16 → itL b l (i + k * q) p = itL b l i (itF (tauN l (mk16 (itL b l i)) q) k p) := by
    intro k
    induction k with
    | zero => intro _ p _; rw [Nat.zero_mul]; rfl
    | succ k ih =>
      intro hle p hp
      rw [Nat.succ_mul] at hle
      have ih := ih (by omega)
      rw [Nat.succ_mul, ← Nat.add_assoc, itL_add]
      have hb2 := itL_in hb l (i + k * q)
      have e0 := itL_still hl hb2 q (by rw [← itL_add, hst _ (by omega), hst _ (by omega)]) hp
      have hq : ∀ p, p < 16 → itL b l (i + q) p = itL b l i (tauN l (mk16 (itL b l i)) q p) := by
        intro p hp
        rw [itL_add]
        exact itL_still hl hb' q (by rw [← itL_add, hst _ (by omega), hst _ (by omega)]) hp
      have hmm : ∀ p, p < 16 → mk16 (itL b l i) (tauN l (mk16 (itL b l i)) q p) = mk16 (itL b l i) p := by
        intro p hp
        rw [hm p hp]
        unfold mk16
        rw [hq p hp]; rfl
      have hmk : ∀ n p, p < 16 → mk16 (itL b l i) (itF (tauN l (mk16 (itL b l i)) q) n p) = mk16 (itL b l i) p := by
        intro n
        induction n with
        | zero => intro p _; rfl
        | succ n ih2 => intro p hp; exact (ih2 _ (tauN_lt l _ q hp)).trans (hmm p hp)
      have hm2 : EqM (mk16 (itL b l (i + k * q))) (mk16 (itL b l i)) := fun p hp => by
        have h1 : mk16 (itL b l (i + k * q)) p = mk16 (itL b l i) (itF (tauN l (mk16 (itL b l i)) q) k p) := congrArg (fun x : Int => decide (x ≠ 0)) (ih p hp)
        rw [h1, hmk k p hp]
      rw [e0, tauN_congr l hm2 q hp, ih _ (tauN_lt l _ q hp)]
      rfl
  refine ⟨i, i + 720720 * q, by omega, by unfold turnN; omega, fun p hp => ?_⟩
  rw [hk 720720 (by unfold turnN; omega) p hp, itF_home (fun p hp => tauN_lt l _ q hp) (fun p q' hp hq' h => tauN_inj hl _ q hp hq' h) hp]
theorem mnB_lo (b : Nat → Int) : ∀ n, 0 ≤ mnB b n ∧ mnB b n ≤ n
  | 0 => ⟨Int.le_refl _, Int.le_refl _⟩
  | n + 1 => by have := mnB_lo b n; have := nz_le (b n); simp only [mnB]; omega
def cycN : Nat := 17 * turnN
/-- Slides by a list come back to a board that was there within cycN times. -/
theorem cycles {l : List Nat} (hl : ∀ d, d ∈ l → d < 4) {b : Nat → Int} (hb : In17 b 16) : ∃ i j, i < j ∧ j ≤ cycN ∧ Eq16 (itL b l i) (itL b l j) := by
  have key : ∀ (k : Nat), (∃ i j, i < j ∧ j ≤ k * turnN ∧ Eq16 (itL b l i) (itL b l j)) ∨ mnB (itL b l (k * turnN)) 16 + k ≤ mnB b 16 := by
    intro k
    induction k with
    | zero => right; rw [Nat.zero_mul]; show mnB b 16 + ((0 : Nat) : Int) ≤ _; omega
    | succ k ih =>
      rcases ih with ⟨i, j, h1, h2, h3⟩ | ih
      · exact .inl ⟨i, j, h1, by rw [Nat.succ_mul]; omega, h3⟩
      · have h1 := mnB_itL_le hl hb (k * turnN) turnN
        rw [Nat.succ_mul]
        by_cases e : mnB (itL b l (k * turnN + turnN)) 16 = mnB (itL b l (k * turnN)) 16
        · left
          obtain ⟨i, j, a, c, d⟩ := still_back hl (itL_in hb l (k * turnN)) (by rw [← itL_add]; exact e)
          refine ⟨k * turnN + i, k * turnN + j, by omega, by omega, ?_⟩
          rw [itL_add, itL_add]; exact d
        · right
          have : ((k + 1 : Nat) : Int) = k + 1 := by omega
          rw [this]
          omega
  rcases key 17 with h | h
  · exact h
  · have h1 := mnB_lo (itL b l (17 * turnN)) 16
    have h2 := mnB_lo b 16
    omega

end Go.Proofs.Ytmjehagmgifchaa

/-
  A store of a whole board, as the walk of a region that draws meets it: into a block just laid, or into one that is known.
-/
namespace Go.Proofs.Ytmjehagmgifchaa
open Go.RowKit

theorem info_Bd : (Try.prog.info? 25).map (·.size) = some 16 := by kernel_rfl
theorem stc_new (w : World) (f : Nat → Int) : (storeCells ⟨w.heap.size, 0, none⟩ [.int .i64 (f 0), .int .i64 (f 1), .int .i64 (f 2), .int .i64 (f 3), .int .i64 (f 4), .int .i64 (f 5), .int .i64 (f 6), .int .i64 (f 7), .int .i64 (f 8), .int .i64 (f 9), .int .i64 (f 10), .int .i64 (f 11), .int .i64 (f 12), .int .i64 (f 13), .int .i64 (f 14), .int .i64 (f 15)] 0).run Try.prog (w.alloc (.cells #[.int .i64 0, .int .i64 0, .int .i64 0, .int .i64 0, .int .i64 0, .int .i64 0, .int .i64 0, .int .i64 0, .int .i64 0, .int .i64 0, .int .i64 0, .int .i64 0, .int .i64 0, .int .i64 0, .int .i64 0, .int .i64 0] 25)) = .ok () (w.alloc (.cells #[.int .i64 (f 0), .int .i64 (f 1), .int .i64 (f 2), .int .i64 (f 3), .int .i64 (f 4), .int .i64 (f 5), .int .i64 (f 6), .int .i64 (f 7), .int .i64 (f 8), .int .i64 (f 9), .int .i64 (f 10), .int .i64 (f 11), .int .i64 (f 12), .int .i64 (f 13), .int .i64 (f 14), .int .i64 (f 15)] 25)) :=
  run_storeCells_new (P := Try.prog) w 25 #[.int .i64 0, .int .i64 0, .int .i64 0, .int .i64 0, .int .i64 0, .int .i64 0, .int .i64 0, .int .i64 0, .int .i64 0, .int .i64 0, .int .i64 0, .int .i64 0, .int .i64 0, .int .i64 0, .int .i64 0, .int .i64 0] #[.int .i64 (f 0), .int .i64 (f 1), .int .i64 (f 2), .int .i64 (f 3), .int .i64 (f 4), .int .i64 (f 5), .int .i64 (f 6), .int .i64 (f 7), .int .i64 (f 8), .int .i64 (f 9), .int .i64 (f 10), .int .i64 (f 11), .int .i64 (f 12), .int .i64 (f 13), .int .i64 (f 14), .int .i64 (f 15)] info_Bd rfl (by simp [Value.oneCell'])

/-- The world behind a store of the board f into block B. -/
def setB (w : World) (B : Nat) (f : Nat → Int) : World := w.setCells B 0 [.int .i64 (f 0), .int .i64 (f 1), .int .i64 (f 2), .int .i64 (f 3), .int .i64 (f 4), .int .i64 (f 5), .int .i64 (f 6), .int .i64 (f 7), .int .i64 (f 8), .int .i64 (f 9), .int .i64 (f 10), .int .i64 (f 11), .int .i64 (f 12), .int .i64 (f 13), .int .i64 (f 14), .int .i64 (f 15)]
theorem stc_has {w : World} {B : Nat} {c : Nat → Value} (h : Has w B 16 c) (f : Nat → Int) : (storeCells ⟨B, 0, none⟩ [.int .i64 (f 0), .int .i64 (f 1), .int .i64 (f 2), .int .i64 (f 3), .int .i64 (f 4), .int .i64 (f 5), .int .i64 (f 6), .int .i64 (f 7), .int .i64 (f 8), .int .i64 (f 9), .int .i64 (f 10), .int .i64 (f 11), .int .i64 (f 12), .int .i64 (f 13), .int .i64 (f 14), .int .i64 (f 15)] 0).run Try.prog w = .ok () (setB w B f) := by
  have hst := run_storeCells_cells (P := Try.prog) B 0 [.int .i64 (f 0), .int .i64 (f 1), .int .i64 (f 2), .int .i64 (f 3), .int .i64 (f 4), .int .i64 (f 5), .int .i64 (f 6), .int .i64 (f 7), .int .i64 (f 8), .int .i64 (f 9), .int .i64 (f 10), .int .i64 (f 11), .int .i64 (f 12), .int .i64 (f 13), .int .i64 (f 14), .int .i64 (f 15)] 0 w
    (fun j hj => by simp only [List.length_cons, List.length_nil] at hj; simp only [Nat.zero_add]; rw [h.1 j (by omega)]; rfl) (fun j _ => h.2.1 _) (by simp [Value.oneCell'])
  exact hst
theorem setB_only (w : World) (B : Nat) (f : Nat → Int) : Only B w (setB w B f) := only_setCells _ _ _ _
theorem Has.setB {w : World} {B : Nat} {c : Nat → Value} (h : Has w B 16 c) (f : Nat → Int) : Has (setB w B f) B 16 (fun o => .int .i64 (f o)) :=
  (h.sets [.int .i64 (f 0), .int .i64 (f 1), .int .i64 (f 2), .int .i64 (f 3), .int .i64 (f 4), .int .i64 (f 5), .int .i64 (f 6), .int .i64 (f 7), .int .i64 (f 8), .int .i64 (f 9), .int .i64 (f 10), .int .i64 (f 11), .int .i64 (f 12), .int .i64 (f 13), .int .i64 (f 14), .int .i64 (f 15)] (by simp)).congr fun o ho => by
    rcases (by omega : o = 0 ∨ o = 1 ∨ o = 2 ∨ o = 3 ∨ o = 4 ∨ o = 5 ∨ o = 6 ∨ o = 7 ∨ o = 8 ∨ o = 9 ∨ o = 10 ∨ o = 11 ∨ o = 12 ∨ o = 13 ∨ o = 14 ∨ o = 15) with rfl | rfl | rfl | rfl | rfl | rfl | rfl | rfl | rfl | rfl | rfl | rfl | rfl | rfl | rfl | rfl <;> rfl
theorem Has.setB_ne {w : World} {B B' n : Nat} {c : Nat → Value} (h : Has w B n c) (f : Nat → Int) (hne : B ≠ B') : Has (Go.Proofs.Ytmjehagmgifchaa.setB w B' f) B n c := h.only (setB_only _ _ _) hne
theorem below_setB {w a : World} (h : Below w.heap.size w a) {B : Nat} (hp : w.heap.size ≤ B) (f : Nat → Int) : Below w.heap.size w (Go.Proofs.Ytmjehagmgifchaa.setB a B f) := below_only h (setB_only _ _ _) hp

/-- A store of a whole board into a block that is known, as a step of a region that draws. -/
theorem wp_store_BoardF {op : Oper} {a : Act} {w : World} {K : Act → World → Prop} {Q : Exit → Act → World → Prop} (x y : Operand) (ho : op.op = .store 25 x y)
    (b : Nat) (f : Nat → Int) (hx : a.eval x = .pointer (some ⟨b, 0, none⟩)) (hy : a.eval y = .agg #[.int .i64 (f 0), .int .i64 (f 1), .int .i64 (f 2), .int .i64 (f 3), .int .i64 (f 4), .int .i64 (f 5), .int .i64 (f 6), .int .i64 (f 7), .int .i64 (f 8), .int .i64 (f 9), .int .i64 (f 10), .int .i64 (f 11), .int .i64 (f 12), .int .i64 (f 13), .int .i64 (f 14), .int .i64 (f 15)]) (hd : op.dst = none) {c : Nat → Value} (hH : Has w b 16 c)
    (h : ∀ w2, Only b w w2 → Has w2 b 16 (fun o => .int .i64 (f o)) → K a w2) : op.wp Try.prog a w K Q :=
  wp_store_mid 25 x y ho b 0 #[.int .i64 (f 0), .int .i64 (f 1), .int .i64 (f 2), .int .i64 (f 3), .int .i64 (f 4), .int .i64 (f 5), .int .i64 (f 6), .int .i64 (f 7), .int .i64 (f 8), .int .i64 (f 9), .int .i64 (f 10), .int .i64 (f 11), .int .i64 (f 12), .int .i64 (f 13), .int .i64 (f 14), .int .i64 (f 15)] hx hy (hH.there 16 (by omega)) info_Bd (by simp [Value.oneCell'])
    (by rw [hd]; exact h _ (setB_only w b f) (hH.setB f))
/-- 'wpAnyH_take' with the slot written out. -/
theorem take_d {P : Program} {ops : Array Oper} {Q : Exit → Act → World → Prop} {md : Region.Mode} {S : World → Prop} {i : Nat} {oi : Oper} (d : Option Tmp) {v : Value} {fuel : Nat} {listed : Array Bool} {a : Act} {w : World} (hi : ops[i]? = some oi) (hd : oi.dst = d)
    (hs : Region.noSelect ops = true) (hf : Region.free md ops listed i = true) (hr : (Region.ready md ops listed).contains i = true)
    (hQ : ∀ c a w, Q (.panic c) (a.put d v) w → Q (.panic c) a w) (hy : YieldsIf P ops S oi v a) (hS : S w)
    (h : wpAnyH P md ops Q S fuel (listed.setIfInBounds i true) (a.put d v) w) : wpAnyH P md ops Q S (fuel + 1) listed a w := by
  subst hd
  exact wpAnyH_take hi hs hf hr hQ hy hS h
/-- The cells of the board that a region loads. -/
def RB (B0 : Nat) (b : Nat → Int) (w' : World) : Prop := w'.rangeAt B0 0 [.int .i64 (b 0), .int .i64 (b 1), .int .i64 (b 2), .int .i64 (b 3), .int .i64 (b 4), .int .i64 (b 5), .int .i64 (b 6), .int .i64 (b 7), .int .i64 (b 8), .int .i64 (b 9), .int .i64 (b 10), .int .i64 (b 11), .int .i64 (b 12), .int .i64 (b 13), .int .i64 (b 14), .int .i64 (b 15)]
theorem rb_of {w' : World} {B0 : Nat} {b : Nat → Int} (h : Has w' B0 16 (fun o => .int .i64 (b o))) : RB B0 b w' := h.range 16 (by omega) (by simp [List.range_succ])
theorem RB.r {w' : World} {B0 : Nat} {b : Nat → Int} (h : RB B0 b w') : w'.rangeAt B0 0 [.int .i64 (b 0), .int .i64 (b 1), .int .i64 (b 2), .int .i64 (b 3), .int .i64 (b 4), .int .i64 (b 5), .int .i64 (b 6), .int .i64 (b 7), .int .i64 (b 8), .int .i64 (b 9), .int .i64 (b 10), .int .i64 (b 11), .int .i64 (b 12), .int .i64 (b 13), .int .i64 (b 14), .int .i64 (b 15)] := h
def R2 (B0 : Nat) (x y : Value) (w' : World) : Prop := w'.rangeAt B0 0 [x, y]
theorem R2.r {w' : World} {B0 : Nat} {x y : Value} (h : R2 B0 x y w') : w'.rangeAt B0 0 [x, y] := h
theorem r2_of {w' : World} {B0 : Nat} {x y : Value} (h : Has w' B0 2 (fun o => if o = 0 then x else y)) : R2 B0 x y w' := h.range 2 (by omega) (by simp [List.range_succ])

end Go.Proofs.Ytmjehagmgifchaa

/-
  Words for SlideCycle: the boards that have been seen; the first that comes again.
-/
namespace Go.Proofs.Ytmjehagmgifchaa
open Go.RowKit

/-- Least number with a property. -/
theorem least {p : Nat → Prop} (h : ∃ n, p n) : ∃ n, p n ∧ ∀ m, m < n → ¬ p m := by
  obtain ⟨n, hn⟩ := h
  induction n using Nat.strongRecOn with
  | ind n ih =>
    by_cases hm : ∃ m, m < n ∧ p m
    · obtain ⟨m, h1, h2⟩ := hm
      exact ih m h1 h2
    · exact ⟨n, hn, fun m h1 h2 => hm ⟨m, h1, h2⟩⟩
/-- Board K is the first that comes again; it stood at I. -/
def Cyc (f : Nat → Nat → Int) (K I : Nat) : Prop := I < K ∧ K ≤ cycN ∧ eqB (f I) (f K) = true ∧ (∀ i, i < I → eqB (f i) (f K) = false) ∧ ∀ k, k < K → ∀ i, i < k → eqB (f i) (f k) = false
theorem cyc_of {l : List Nat} (hl : ∀ d, d ∈ l → d < 4) {b : Nat → Int} (hb : In17 b 16) : ∃ K I, Cyc (itL b l) K I := by
  obtain ⟨i0, j0, h1, h2, h3⟩ := cycles hl hb
  obtain ⟨K, ⟨i1, hi1, he1⟩, hK⟩ := least (p := fun k => ∃ i, i < k ∧ eqB (itL b l i) (itL b l k) = true) ⟨j0, i0, h1, eqB_true.2 h3⟩
  obtain ⟨I, ⟨hI, heI⟩, hI2⟩ := least (p := fun i => i < K ∧ eqB (itL b l i) (itL b l K) = true) ⟨i1, hi1, he1⟩
  refine ⟨K, I, hI, ?_, heI, fun i hi => ?_, fun k hk i hi => ?_⟩
  · exact Nat.le_trans (Nat.le_of_not_lt fun h => hK j0 h ⟨i0, h1, eqB_true.2 h3⟩) h2
  · exact Bool.eq_false_iff.2 fun h => hI2 i hi ⟨by omega, h⟩
  · exact Bool.eq_false_iff.2 fun h => hK k hk ⟨i, hi, h⟩
theorem cyc_not {f : Nat → Nat → Int} {K I k : Nat} (h : Cyc f K I) (hk : ∀ i, i < k → eqB (f i) (f k) = false) (hle : k ≤ K) : k < K := by
  rcases Nat.lt_or_eq_of_le hle with h1 | h1
  · exact h1
  · subst h1
    have := hk I h.1
    rw [h.2.2.1] at this; cases this

/-- The cells of the first k boards. -/
def seenL (f : Nat → Nat → Int) (k : Nat) : List Value := (List.range (16 * k)).map fun o => .int .i64 (f (o / 16) (o % 16))
theorem seenL_succ (f : Nat → Nat → Int) (k : Nat) : seenL f (k + 1) = seenL f k ++ [.int .i64 (f k 0), .int .i64 (f k 1), .int .i64 (f k 2), .int .i64 (f k 3), .int .i64 (f k 4), .int .i64 (f k 5), .int .i64 (f k 6), .int .i64 (f k 7), .int .i64 (f k 8), .int .i64 (f k 9), .int .i64 (f k 10), .int .i64 (f k 11), .int .i64 (f k 12), .int .i64 (f k 13), .int .i64 (f k 14), .int .i64 (f k 15)] := by
  unfold seenL
  rw [show 16 * (k + 1) = 16 * k + 16 by omega, List.range_add, List.map_append]
  congr 1
  simp only [List.map_map]
  have e : ∀ j, j < 16 → ((fun o => Value.int .i64 (f (o / 16) (o % 16))) ∘ fun x => 16 * k + x) j = .int .i64 (f k j) := by
    intro j hj
    show Value.int .i64 (f ((16 * k + j) / 16) ((16 * k + j) % 16)) = _
    rw [show (16 * k + j) / 16 = k by omega, show (16 * k + j) % 16 = j by omega]
  simp only [List.range_succ, List.range_zero, List.nil_append, List.map_cons, List.map_nil, List.cons_append]
  rw [e 0 (by omega), e 1 (by omega), e 2 (by omega), e 3 (by omega), e 4 (by omega), e 5 (by omega), e 6 (by omega), e 7 (by omega), e 8 (by omega), e 9 (by omega), e 10 (by omega), e 11 (by omega), e 12 (by omega), e 13 (by omega), e 14 (by omega), e 15 (by omega)]
def seenC (f : Nat → Nat → Int) : Nat → Value := fun o => .int .i64 (f (o / 16) (o % 16))
theorem seen_sl {w : World} {base k : Nat} {v : Value} {f : Nat → Nat → Int} (h : w.ownsRow base 25 16 v k (seenL f k)) : ∃ A cap, v = .slice A k cap ∧ Sl w base A (k * 16) (seenC f) := by
  obtain ⟨A, cap, rfl, _, hS⟩ := own_sl h
  exact ⟨A, cap, rfl, hS.congr fun o ho => by simp [seenL, seenC, show o < 16 * k by omega]⟩
/-- The cells of board k of a list, as a region loads them. -/
def RBo (B k : Nat) (b : Nat → Int) (w' : World) : Prop := w'.rangeAt B (k * 16) [.int .i64 (b 0), .int .i64 (b 1), .int .i64 (b 2), .int .i64 (b 3), .int .i64 (b 4), .int .i64 (b 5), .int .i64 (b 6), .int .i64 (b 7), .int .i64 (b 8), .int .i64 (b 9), .int .i64 (b 10), .int .i64 (b 11), .int .i64 (b 12), .int .i64 (b 13), .int .i64 (b 14), .int .i64 (b 15)]
theorem RBo.r {B k : Nat} {b : Nat → Int} {w' : World} (h : RBo B k b w') : w'.rangeAt B (k * 16) [.int .i64 (b 0), .int .i64 (b 1), .int .i64 (b 2), .int .i64 (b 3), .int .i64 (b 4), .int .i64 (b 5), .int .i64 (b 6), .int .i64 (b 7), .int .i64 (b 8), .int .i64 (b 9), .int .i64 (b 10), .int .i64 (b 11), .int .i64 (b 12), .int .i64 (b 13), .int .i64 (b 14), .int .i64 (b 15)] := h
theorem rbo_of {w' : World} {B N k : Nat} {f : Nat → Nat → Int} (h : Has w' B N (seenC f)) (hk : k * 16 + 16 ≤ N) : RBo B k (f k) w' := by
  have e : ∀ j, j < 16 → seenC f (k * 16 + j) = .int .i64 (f k j) := by
    intro j hj
    show Value.int .i64 (f ((k * 16 + j) / 16) ((k * 16 + j) % 16)) = _
    rw [show (k * 16 + j) / 16 = k by omega, show (k * 16 + j) % 16 = j by omega]
  refine h.range 16 hk ?_
  simp only [List.range_succ, List.range_zero, List.nil_append, List.map_cons, List.map_nil, List.cons_append]
  rw [e 0 (by omega), e 1 (by omega), e 2 (by omega), e 3 (by omega), e 4 (by omega), e 5 (by omega), e 6 (by omega), e 7 (by omega), e 8 (by omega), e 9 (by omega), e 10 (by omega), e 11 (by omega), e 12 (by omega), e 13 (by omega), e 14 (by omega), e 15 (by omega)]
theorem bd_cells {wr : World} {T : TypeId} {b : Nat → Int} : ∀ (j : Nat) (u : Value), ([.int .i64 (b 0), .int .i64 (b 1), .int .i64 (b 2), .int .i64 (b 3), .int .i64 (b 4), .int .i64 (b 5), .int .i64 (b 6), .int .i64 (b 7), .int .i64 (b 8), .int .i64 (b 9), .int .i64 (b 10), .int .i64 (b 11), .int .i64 (b 12), .int .i64 (b 13), .int .i64 (b 14), .int .i64 (b 15)] : List Value)[j]? = some u → (wr.alloc (.cells #[.int .i64 (b 0), .int .i64 (b 1), .int .i64 (b 2), .int .i64 (b 3), .int .i64 (b 4), .int .i64 (b 5), .int .i64 (b 6), .int .i64 (b 7), .int .i64 (b 8), .int .i64 (b 9), .int .i64 (b 10), .int .i64 (b 11), .int .i64 (b 12), .int .i64 (b 13), .int .i64 (b 14), .int .i64 (b 15)] T)).cell? ((⟨wr.heap.size, 0, none⟩ : Addr).add j) = some u := by
  intro j u hj
  have hn := Has.new' (w := wr) (cs := #[.int .i64 (b 0), .int .i64 (b 1), .int .i64 (b 2), .int .i64 (b 3), .int .i64 (b 4), .int .i64 (b 5), .int .i64 (b 6), .int .i64 (b 7), .int .i64 (b 8), .int .i64 (b 9), .int .i64 (b 10), .int .i64 (b 11), .int .i64 (b 12), .int .i64 (b 13), .int .i64 (b 14), .int .i64 (b 15)]) (T := T) (n := 16) rfl
  rw [Addr.add_lit, Nat.zero_add]
  have hlt : j < 16 := by have := (List.getElem?_eq_some_iff.1 hj).1; simpa using this
  rw [hn.1 j hlt]
  rcases (by omega : j = 0 ∨ j = 1 ∨ j = 2 ∨ j = 3 ∨ j = 4 ∨ j = 5 ∨ j = 6 ∨ j = 7 ∨ j = 8 ∨ j = 9 ∨ j = 10 ∨ j = 11 ∨ j = 12 ∨ j = 13 ∨ j = 14 ∨ j = 15) with rfl | rfl | rfl | rfl | rfl | rfl | rfl | rfl | rfl | rfl | rfl | rfl | rfl | rfl | rfl | rfl <;> exact hj
theorem own_full {w : World} {cur : Array Value} {e size n base : Nat} (hb : base ≤ w.heap.size) (hm : n ≤ maxLen) (hs : cur.size = n * size) : (w.alloc (.cells cur e)).ownsRow base e size (.slice (some ⟨w.heap.size, 0, none⟩) n n) n cur.toList :=
  ⟨by simp [hs], .inr ⟨w.heap.size, n, cur, rfl, hb, heap_alloc_new w _, Nat.le_refl _, hm, hs, by rw [← hs, ← Array.length_toList, List.take_length]⟩⟩
theorem info_Bd3 : (Try.prog.info? 25).map (fun i => (i.zero, i.size, i.bytes)) = some (some (.agg #[.int .i64 0, .int .i64 0, .int .i64 0, .int .i64 0, .int .i64 0, .int .i64 0, .int .i64 0, .int .i64 0, .int .i64 0, .int .i64 0, .int .i64 0, .int .i64 0, .int .i64 0, .int .i64 0, .int .i64 0, .int .i64 0]), 16, 128) := by kernel_rfl

def Ix (f : Nat → Nat → Int) (k : Nat) (c : Nat → Int) (i : Int) : Prop := (i = -1 ∧ ∀ j, j < k → eqB c (f j) = false) ∨ ∃ m : Nat, m < k ∧ i = m ∧ eqB c (f m) = true ∧ ∀ j, j < m → eqB c (f j) = false

end Go.Proofs.Ytmjehagmgifchaa

/-
  Plain words: lists in order, each once: putting to its place; sorting and striking what comes again.
-/
namespace Go.Proofs.Ytmjehagmgifchaa

structure OrdB {α : Type} (lt eq : α → α → Bool) : Prop where
  refl : ∀ a, eq a a = true
  symm : ∀ a b, eq a b = true → eq b a = true
  etrans : ∀ a b c, eq a b = true → eq b c = true → eq a c = true
  irrefl : ∀ a b, eq a b = true → lt a b = false
  trans : ∀ a b c, lt a b = true → lt b c = true → lt a c = true
  total : ∀ a b, lt a b = false → lt b a = false → eq a b = true
  congr : ∀ a b c d, eq a b = true → eq c d = true → lt a c = lt b d

section
variable {α : Type} {lt eq : α → α → Bool}

def hasO (eq : α → α → Bool) (l : List α) (c : α) : Bool := l.any fun a => eq a c
/-- The first place of one that does not come ahead of b. -/
def plO (lt : α → α → Bool) : List α → α → Nat
  | [], _ => 0
  | a :: l, b => if lt a b = true then plO lt l b + 1 else 0
/-- b put to its place, once. -/
def adO (lt eq : α → α → Bool) : List α → α → List α
  | [], b => [b]
  | a :: l, b => if lt a b = true then a :: adO lt eq l b else if eq a b = true then a :: l else b :: a :: l
def SrtO (lt : α → α → Bool) (l : List α) : Prop := l.Pairwise fun a b => lt a b = true

theorem plO_le : ∀ (l : List α) (b : α), plO lt l b ≤ l.length
  | [], _ => Nat.le_refl _
  | a :: l, b => by
    have := plO_le l b
    simp only [plO, List.length_cons]
    split <;> omega
theorem plO_lt : ∀ (l : List α) (b : α) (i : Nat) (x : α), i < plO lt l b → l[i]? = some x → lt x b = true
  | [], _, _, _, h, _ => absurd h (Nat.not_lt_zero _)
  | a :: l, b, i, x, h, hx => by
    simp only [plO] at h
    split at h
    · cases i with
      | zero => simp at hx; subst hx; assumption
      | succ i => exact plO_lt l b i x (by omega) (by simpa using hx)
    · exact absurd h (Nat.not_lt_zero _)
theorem plO_at : ∀ (l : List α) (b : α) (x : α), l[plO lt l b]? = some x → lt x b = false
  | [], _, _, h => by simp at h
  | a :: l, b, x, h => by
    simp only [plO] at h
    split at h
    · exact plO_at l b x (by simpa using h)
    · rename_i hn
      simp at h; subst h
      simpa using hn
/-- A place ahead of which all come ahead of b, and that does not itself, is b's place. -/
theorem plO_eq {l : List α} {b : α} {n : Nat} (h1 : ∀ i x, i < n → l[i]? = some x → lt x b = true) (hn : n ≤ l.length) (h2 : ∀ x, l[n]? = some x → lt x b = false) : plO lt l b = n := by
  rcases Nat.lt_trichotomy (plO lt l b) n with h | h | h
  · have hlt : plO lt l b < l.length := by omega
    have e := List.getElem?_eq_getElem hlt
    have a1 := plO_at l b _ e
    have a2 := h1 _ _ h e
    rw [a1] at a2; cases a2
  · exact h
  · have := plO_le (lt := lt) l b
    have hlt : n < l.length := by omega
    have e := List.getElem?_eq_getElem hlt
    have a1 := plO_lt l b n _ h e
    have a2 := h2 _ e
    rw [a1] at a2; cases a2
theorem adO_in : ∀ (l : List α) (b x : α), l[plO lt l b]? = some x → eq x b = true → adO lt eq l b = l
  | [], _, _, h, _ => by simp at h
  | a :: l, b, x, h, he => by
    simp only [plO] at h
    simp only [adO]
    split
    · rename_i hc
      rw [if_pos hc] at h
      rw [adO_in l b x (by simpa using h) he]
    · rename_i hc
      rw [if_neg hc] at h
      simp at h; subst h
      rw [if_pos he]
theorem adO_out : ∀ (l : List α) (b : α), (∀ x, l[plO lt l b]? = some x → eq x b = false) → adO lt eq l b = l.take (plO lt l b) ++ b :: l.drop (plO lt l b)
  | [], _, _ => rfl
  | a :: l, b, h => by
    simp only [plO] at h
    simp only [adO, plO]
    split
    · rename_i hc
      rw [if_pos hc] at h
      rw [adO_out l b fun x hx => h x (by simpa using hx)]
      rfl
    · rename_i hc
      rw [if_neg hc] at h
      have := h a rfl
      rw [if_neg (by rw [this]; exact Bool.false_ne_true)]
      rfl

theorem hasO_nil (c : α) : hasO eq [] c = false := rfl
theorem hasO_cons (a : α) (l : List α) (c : α) : hasO eq (a :: l) c = (eq a c || hasO eq l c) := by simp [hasO]
theorem hasO_app (l m : List α) (c : α) : hasO eq (l ++ m) c = (hasO eq l c || hasO eq m c) := by simp [hasO]
theorem hasO_iff {l : List α} {c : α} : hasO eq l c = true ↔ ∃ a, a ∈ l ∧ eq a c = true := by simp [hasO]
theorem hasO_perm {l m : List α} (h : l.Perm m) (c : α) : hasO eq l c = hasO eq m c := by
  rw [Bool.eq_iff_iff, hasO_iff, hasO_iff]
  exact ⟨fun ⟨a, h1, h2⟩ => ⟨a, h.mem_iff.1 h1, h2⟩, fun ⟨a, h1, h2⟩ => ⟨a, h.mem_iff.2 h1, h2⟩⟩

variable (O : OrdB lt eq)
include O

theorem OrdB.comm (a b : α) : eq a b = eq b a := by rw [Bool.eq_iff_iff]; exact ⟨O.symm a b, O.symm b a⟩
theorem OrdB.econgr {a b : α} (h : eq a b = true) (c : α) : eq a c = eq b c := by
  rw [Bool.eq_iff_iff]
  exact ⟨O.etrans b a c (O.symm _ _ h), O.etrans a b c h⟩
theorem OrdB.asymm {a b : α} (h : lt a b = true) : lt b a = false := by
  cases e : lt b a
  · rfl
  · have := O.trans a b a h e
    rw [O.irrefl a a (O.refl a)] at this; cases this
theorem OrdB.not_eq {a b : α} (h : lt a b = true) : eq a b = false := by
  cases e : eq a b
  · rfl
  · rw [O.irrefl a b e] at h; cases h
theorem OrdB.ntrans {a b c : α} (h : lt a b = false) (k : lt b c = false) : lt a c = false := by
  cases e : lt a c
  · rfl
  · cases e2 : lt c b
    · have h1 := O.total b c k e2
      rw [O.congr a a b c (O.refl a) h1, e] at h; cases h
    · rw [O.trans a c b e e2] at h; cases h

theorem hasO_ad (l : List α) (b c : α) : hasO eq (adO lt eq l b) c = (hasO eq l c || eq b c) := by
  induction l with
  | nil => simp [adO, hasO]
  | cons a l ih =>
    simp only [adO]
    split
    · rw [hasO_cons, hasO_cons, ih, Bool.or_assoc]
    · split
      · rename_i he
        rw [hasO_cons, O.econgr he c]
        cases eq b c <;> simp
      · rw [hasO_cons, hasO_cons]
        cases eq b c <;> simp
omit O in
theorem mem_ad (l : List α) (b x : α) (h : x ∈ adO lt eq l b) : x = b ∨ x ∈ l := by
  induction l with
  | nil => simp [adO] at h; exact .inl h
  | cons a l ih =>
    simp only [adO] at h
    split at h
    · rcases List.mem_cons.1 h with h | h
      · exact .inr (by simp [h])
      · rcases ih h with h | h
        · exact .inl h
        · exact .inr (List.mem_cons_of_mem _ h)
    · split at h
      · exact .inr h
      · rcases List.mem_cons.1 h with h | h
        · exact .inl h
        · exact .inr h
theorem srtO_ad {l : List α} (h : SrtO lt l) (b : α) : SrtO lt (adO lt eq l b) := by
  induction l with
  | nil => simp [adO, SrtO]
  | cons a l ih =>
    obtain ⟨h1, h2⟩ := List.pairwise_cons.1 h
    simp only [adO]
    split
    · rename_i hc
      refine List.pairwise_cons.2 ⟨fun x hx => ?_, ih h2⟩
      rcases mem_ad l b x hx with rfl | hx
      · exact hc
      · exact h1 x hx
    · rename_i hc
      split
      · exact h
      · rename_i he
        have hba : lt b a = true := by
          cases e : lt b a
          · exact absurd (O.total a b (by simpa using hc) e) he
          · rfl
        refine List.pairwise_cons.2 ⟨fun x hx => ?_, h⟩
        rcases List.mem_cons.1 hx with rfl | hx
        · exact hba
        · exact O.trans b a x hba (h1 x hx)
theorem lenO_ad {l : List α} (h : SrtO lt l) (b : α) : (adO lt eq l b).length = if hasO eq l b = true then l.length else l.length + 1 := by
  induction l with
  | nil => simp [adO, hasO]
  | cons a l ih =>
    obtain ⟨h1, h2⟩ := List.pairwise_cons.1 h
    simp only [adO]
    split
    · rename_i hc
      rw [hasO_cons, O.not_eq hc, Bool.false_or, List.length_cons, ih h2]
      split <;> rfl
    · rename_i hc
      split
      · rename_i he
        rw [hasO_cons, he, Bool.true_or, if_pos rfl]
      · rename_i he
        have hba : lt b a = true := by
          cases e : lt b a
          · exact absurd (O.total a b (by simpa using hc) e) he
          · rfl
        rw [if_neg]
        · rfl
        · rw [hasO_iff]
          rintro ⟨x, hx, hxb⟩
          rcases List.mem_cons.1 hx with rfl | hx
          · exact he hxb
          · have := O.not_eq (O.trans b a x hba (h1 x hx))
            rw [O.comm, hxb] at this; cases this

/-- Two lists in order with the same members are one. -/
theorem uniqO : ∀ (l m : List α), SrtO lt l → SrtO lt m → (∀ c, hasO eq l c = hasO eq m c) → l.length = m.length ∧ ∀ (i : Nat) (x y : α), l[i]? = some x → m[i]? = some y → eq x y = true
  | [], [], _, _, _ => ⟨rfl, fun _ _ _ h => by simp at h⟩
  | [], b :: m, _, _, h => by have := h b; rw [hasO_nil, hasO_cons, O.refl] at this; simp at this
  | a :: l, [], _, _, h => by have := h a; rw [hasO_nil, hasO_cons, O.refl] at this; simp at this
  | a :: l, b :: m, hl, hm, h => by
    obtain ⟨l1, l2⟩ := List.pairwise_cons.1 hl
    obtain ⟨m1, m2⟩ := List.pairwise_cons.1 hm
    have hab : eq a b = true := by
      have ha := (h a).symm.trans (by rw [hasO_cons, O.refl]; rfl : hasO eq (a :: l) a = true)
      have hb := (h b).trans (by rw [hasO_cons, O.refl]; rfl : hasO eq (b :: m) b = true)
      obtain ⟨x, hx, hxa⟩ := hasO_iff.1 ha
      obtain ⟨y, hy, hyb⟩ := hasO_iff.1 hb
      rcases List.mem_cons.1 hx with rfl | hx
      · exact O.symm _ _ hxa
      · rcases List.mem_cons.1 hy with rfl | hy
        · exact hyb
        · have e1 := m1 x hx
          rw [O.congr b b x a (O.refl b) hxa] at e1
          have e2 := l1 y hy
          rw [O.congr a a y b (O.refl a) hyb] at e2
          rw [O.asymm e1] at e2; cases e2
    have hlm : ∀ c, hasO eq l c = hasO eq m c := by
      intro c
      have hc := h c
      rw [hasO_cons, hasO_cons, O.econgr hab c] at hc
      cases e : eq b c
      · rw [e, Bool.false_or, Bool.false_or] at hc; exact hc
      · have n1 : hasO eq l c = false := by
          cases e1 : hasO eq l c
          · rfl
          · obtain ⟨x, hx, hxc⟩ := hasO_iff.1 e1
            have := O.not_eq (l1 x hx)
            rw [O.etrans a b x hab (O.etrans b c x e (O.symm _ _ hxc))] at this; cases this
        have n2 : hasO eq m c = false := by
          cases e1 : hasO eq m c
          · rfl
          · obtain ⟨x, hx, hxc⟩ := hasO_iff.1 e1
            have := O.not_eq (m1 x hx)
            rw [O.etrans b c x e (O.symm _ _ hxc)] at this; cases this
        rw [n1, n2]
    obtain ⟨r1, r2⟩ := uniqO l m l2 m2 hlm
    refine ⟨by simp [r1], fun i x y hx hy => ?_⟩
    cases i with
    | zero => simp at hx hy; subst hx hy; exact hab
    | succ i => exact r2 i x y (by simpa using hx) (by simpa using hy)
omit O

/-- What is left where each that equals the one ahead is struck. -/
def cpL (eq : α → α → Bool) : α → List α → List α
  | _, [] => []
  | p, b :: l => if eq b p = true then cpL eq b l else b :: cpL eq b l
def cpA (eq : α → α → Bool) : List α → List α
  | [] => []
  | a :: l => a :: cpL eq a l
def laO : α → List α → α
  | p, [] => p
  | _, b :: l => laO b l
theorem cpL_snoc : ∀ (l : List α) (p x : α), cpL eq p (l ++ [x]) = cpL eq p l ++ if eq x (laO p l) = true then [] else [x]
  | [], p, x => rfl
  | b :: l, p, x => by
    show (if eq b p = true then cpL eq b (l ++ [x]) else b :: cpL eq b (l ++ [x])) = (if eq b p = true then cpL eq b l else b :: cpL eq b l) ++ (if eq x (laO b l) = true then [] else [x])
    rw [cpL_snoc l b x]
    by_cases h : eq b p = true
    · rw [if_pos h, if_pos h]
    · rw [if_neg h, if_neg h]; rfl
theorem laO_take : ∀ (k : Nat) (l : List α) (p y : α), (p :: l)[k]? = some y → laO p (l.take k) = y
  | 0, l, p, y, h => by simpa [laO] using h
  | k + 1, [], p, y, h => by simp at h
  | k + 1, b :: l, p, y, h => by
    rw [List.take_succ_cons]
    exact laO_take k l b y (by simpa using h)
theorem cpA_snoc (l : List α) (k : Nat) (x y : α) (h1 : l[k]? = some y) (h2 : l[k + 1]? = some x) : cpA eq (l.take (k + 2)) = cpA eq (l.take (k + 1)) ++ if eq x y = true then [] else [x] := by
  cases l with
  | nil => simp at h1
  | cons a l =>
    have h2' : l[k]? = some x := by simpa using h2
    have e : l.take (k + 1) = l.take k ++ [x] := by
      rw [List.take_add_one, h2']; rfl
    show a :: cpL eq a (l.take (k + 1)) = a :: cpL eq a (l.take k) ++ _
    rw [e, cpL_snoc, laO_take k l a y h1]
    rfl
theorem cpA_len (l : List α) : (cpA eq l).length ≤ l.length := by
  cases l with
  | nil => exact Nat.le_refl _
  | cons a l =>
    have h : ∀ (l : List α) (p : α), (cpL eq p l).length ≤ l.length := by
      intro l
      induction l with
      | nil => intro p; exact Nat.le_refl _
      | cons b l ih =>
        intro p
        have := ih b
        simp only [cpL]
        split <;> simp <;> omega
    have := h l a
    simp [cpA]; omega
include O
theorem hasO_cp (l : List α) (c : α) : hasO eq (cpA eq l) c = hasO eq l c := by
  cases l with
  | nil => rfl
  | cons a l =>
    show hasO eq (a :: cpL eq a l) c = _
    induction l generalizing a with
    | nil => rfl
    | cons b l ih =>
      have ihb := ih b
      rw [hasO_cons, hasO_cons] at ihb
      simp only [cpL]
      split
      · rename_i he
        rw [hasO_cons, hasO_cons, hasO_cons, ← O.econgr he c]
        rw [ihb]
        cases eq b c <;> simp
      · rw [hasO_cons, hasO_cons, ihb, hasO_cons, hasO_cons]
theorem srtO_cp (l : List α) (h : l.Pairwise fun a b => lt b a = false) : SrtO lt (cpA eq l) := by
  cases l with
  | nil => exact List.Pairwise.nil
  | cons a l =>
    show SrtO lt (a :: cpL eq a l)
    induction l generalizing a with
    | nil => simp [cpL, SrtO]
    | cons b l ih =>
      obtain ⟨h1, h2⟩ := List.pairwise_cons.1 h
      have ihb := ih b h2
      obtain ⟨r1, r2⟩ := List.pairwise_cons.1 ihb
      simp only [cpL]
      split
      · rename_i he
        refine List.pairwise_cons.2 ⟨fun x hx => ?_, r2⟩
        rw [← O.congr b a x x he (O.refl x)]
        exact r1 x hx
      · rename_i he
        have hab : lt a b = true := by
          cases e : lt a b
          · exact absurd (O.total b a (h1 b (List.mem_cons_self ..)) e) he
          · rfl
        refine List.pairwise_cons.2 ⟨fun x hx => ?_, ihb⟩
        rcases List.mem_cons.1 hx with rfl | hx
        · exact hab
        · exact O.trans a b x hab (r1 x hx)
omit O

/-- Those of a list put to their places one after the other. -/
def foldO (lt eq : α → α → Bool) (f : Nat → α) : Nat → List α
  | 0 => []
  | n + 1 => adO lt eq (foldO lt eq f n) (f n)
include O
theorem foldO_srt (f : Nat → α) : ∀ n, SrtO lt (foldO lt eq f n)
  | 0 => List.Pairwise.nil
  | n + 1 => srtO_ad O (foldO_srt f n) _
theorem foldO_has (f : Nat → α) (c : α) : ∀ n, hasO eq (foldO lt eq f n) c = (List.range n).any fun j => eq (f j) c
  | 0 => rfl
  | n + 1 => by
    rw [foldO, hasO_ad O, foldO_has f c n, List.range_succ, List.any_append]
    simp
theorem foldO_len (f : Nat → α) : ∀ n, (foldO lt eq f n).length = ((List.range n).filter fun k => !((List.range k).any fun j => eq (f j) (f k))).length
  | 0 => rfl
  | n + 1 => by
    rw [foldO, lenO_ad O (foldO_srt O f n), foldO_len f n, foldO_has O f (f n) n, List.range_succ, List.filter_append, List.length_append]
    generalize hA : ((List.range n).any fun j => eq (f j) (f n)) = A
    have e : (List.filter (fun k => !((List.range k).any fun j => eq (f j) (f k))) [n]).length = if A = true then 0 else 1 := by
      rw [List.filter_cons, hA]
      cases A <;> rfl
    rw [e]
    cases A <;> rfl
end

end Go.Proofs.Ytmjehagmgifchaa

/-
  Words for lists of boards in order.
-/
namespace Go.Proofs.Ytmjehagmgifchaa
open Go.RowKit

theorem ordBd : OrdB ltB eqB := ⟨eqB_refl, fun _ _ => eqB_symm, fun _ _ _ => eqB_trans, fun _ _ => ltB_irrefl, fun _ _ _ => ltB_trans, fun _ _ => ltB_total, fun _ _ _ _ => ltB_congr⟩
def atL (l : List (Nat → Int)) (i : Nat) : Nat → Int := l.getD i (fun _ => 0)
def c16 (b : Nat → Int) : List Value := [.int .i64 (b 0), .int .i64 (b 1), .int .i64 (b 2), .int .i64 (b 3), .int .i64 (b 4), .int .i64 (b 5), .int .i64 (b 6), .int .i64 (b 7), .int .i64 (b 8), .int .i64 (b 9), .int .i64 (b 10), .int .i64 (b 11), .int .i64 (b 12), .int .i64 (b 13), .int .i64 (b 14), .int .i64 (b 15)]
/-- The cells of a list of boards. -/
def bsV (l : List (Nat → Int)) : List Value := l.flatMap c16
theorem bsV_app (l m : List (Nat → Int)) : bsV (l ++ m) = bsV l ++ bsV m := List.flatMap_append
theorem bsV_one (b : Nat → Int) : bsV [b] = c16 b := by simp [bsV]
theorem bsV_snoc (l : List (Nat → Int)) (b : Nat → Int) : bsV (l ++ [b]) = bsV l ++ c16 b := by rw [bsV_app, bsV_one]
theorem bsV_cons (b : Nat → Int) (l : List (Nat → Int)) : bsV (b :: l) = c16 b ++ bsV l := by simp [bsV]
theorem bsV_len : ∀ l : List (Nat → Int), (bsV l).length = l.length * 16
  | [] => rfl
  | b :: l => by rw [bsV_cons, List.length_append, bsV_len l, List.length_cons]; simp [c16]; omega
theorem bsV_ints : ∀ (l : List (Nat → Int)) (u : Value), u ∈ bsV l → u.oneCell' = true := by
  intro l u hu
  obtain ⟨b, _, h⟩ := List.mem_flatMap.1 hu
  simp only [c16, List.mem_cons, List.not_mem_nil, or_false] at h
  rcases h with rfl | rfl | rfl | rfl | rfl | rfl | rfl | rfl | rfl | rfl | rfl | rfl | rfl | rfl | rfl | rfl <;> rfl
theorem bsV_drop : ∀ (n : Nat) (l : List (Nat → Int)), bsV (l.drop n) = (bsV l).drop (n * 16)
  | 0, l => by simp
  | n + 1, [] => by simp [bsV]
  | n + 1, b :: l => by
    rw [List.drop_succ_cons, bsV_drop n l, bsV_cons, show (n + 1) * 16 = 16 + n * 16 by omega, ← List.drop_drop]
    rfl
theorem bsV_take : ∀ (n : Nat) (l : List (Nat → Int)), bsV (l.take n) = (bsV l).take (n * 16)
  | 0, l => by simp [bsV]
  | n + 1, [] => by simp [bsV]
  | n + 1, b :: l => by
    rw [List.take_succ_cons, bsV_cons, bsV_take n l, bsV_cons, show (n + 1) * 16 = 16 + n * 16 by omega, List.take_add]
    rfl
theorem bsV_seen (l : List (Nat → Int)) : ∀ k, k ≤ l.length → bsV (l.take k) = seenL (atL l) k
  | 0, _ => by simp [bsV, seenL]
  | k + 1, h => by
    have e : l.take (k + 1) = l.take k ++ [atL l k] := by
      rw [List.take_add_one, List.getElem?_eq_getElem (by omega)]
      simp [atL, show k < l.length by omega]
    rw [e, bsV_snoc, bsV_seen l k (by omega), seenL_succ]
    rfl
theorem bsV_all (l : List (Nat → Int)) : bsV l = seenL (atL l) l.length := by rw [← bsV_seen l _ (Nat.le_refl _), List.take_length]
def bsC (l : List (Nat → Int)) : Nat → Value := seenC (atL l)
theorem bsC_get (l : List (Nat → Int)) {o : Nat} (ho : o < l.length * 16) : (bsV l)[o]? = some (bsC l o) := by
  rw [bsV_all]
  simp only [seenL, List.getElem?_map]
  rw [List.getElem?_range (by omega)]
  rfl
theorem bs_sl {w : World} {base : Nat} {v : Value} {l : List (Nat → Int)} (h : w.ownsRow base 25 16 v l.length (bsV l)) : ∃ A cap, v = .slice A l.length cap ∧ l.length ≤ cap ∧ Sl w base A (l.length * 16) (bsC l) := by
  obtain ⟨A, cap, rfl, hcap, hS⟩ := own_sl h
  exact ⟨A, cap, rfl, hcap, hS.congr fun o ho => by
    have := bsC_get l ho
    simp [List.getD, this]⟩
/-- Boards out of a block that holds a list of them. -/
theorem bs_news {w : World} {g : Nat} {l : List (Nat → Int)} (h : Has w g (l.length * 16) (bsC l)) (o : Nat) (m : List Value) (e : ∀ j u, m[j]? = some u → (bsV l)[o + j]? = some u) : ∀ (j : Nat) (u : Value), m[j]? = some u → w.cell? ((⟨g, o, none⟩ : Addr).add j) = some u := by
  intro j u hj
  have h1 := e j u hj
  rw [Addr.add_lit]
  have hlt : o + j < l.length * 16 := by
    have := (List.getElem?_eq_some_iff.1 h1).1
    rwa [bsV_len] at this
  rw [h.1 _ hlt, ← h1, bsC_get l hlt]
theorem bs_take {w : World} {g : Nat} {l : List (Nat → Int)} (h : Has w g (l.length * 16) (bsC l)) (n : Nat) : ∀ (j : Nat) (u : Value), (bsV (l.take n))[j]? = some u → w.cell? ((⟨g, 0, none⟩ : Addr).add j) = some u :=
  bs_news h 0 _ fun j u hj => by
    rw [bsV_take, List.getElem?_take] at hj
    split at hj
    · simpa using hj
    · cases hj
theorem bs_drop {w : World} {g : Nat} {l : List (Nat → Int)} (h : Has w g (l.length * 16) (bsC l)) (n : Nat) : ∀ (j : Nat) (u : Value), (bsV (l.drop n))[j]? = some u → w.cell? ((⟨g, n * 16, none⟩ : Addr).add j) = some u :=
  bs_news h (n * 16) _ fun j u hj => by
    rw [bsV_drop, List.getElem?_drop] at hj
    exact hj
theorem bs_box {w : World} {B : Nat} {b : Nat → Int} (h : Has w B 16 (fun o => .int .i64 (b o))) : ∀ (j : Nat) (u : Value), (c16 b)[j]? = some u → w.cell? ((⟨B, 0, none⟩ : Addr).add j) = some u := by
  intro j u hj
  have hlt : j < 16 := by have := (List.getElem?_eq_some_iff.1 hj).1; simpa [c16] using this
  rw [Addr.add_lit, Nat.zero_add, h.1 j hlt, ← hj]
  rcases p16 hlt with rfl | rfl | rfl | rfl | rfl | rfl | rfl | rfl | rfl | rfl | rfl | rfl | rfl | rfl | rfl | rfl <;> rfl
theorem c16_ints (b : Nat → Int) : ∀ u, u ∈ c16 b → u.oneCell' = true := by
  intro u hu
  exact bsV_ints [b] u (by rw [bsV_one]; exact hu)

end Go.Proofs.Ytmjehagmgifchaa

/-
  Contract: slices.Index at boards.
-/
namespace Go.Proofs.Ytmjehagmgifchaa
open Go.RowKit

set_option maxHeartbeats 8000000 in
set_option maxRecDepth 100000 in
theorem indexB_any (f : Nat → Nat → Int) (c : Nat → Int) (A : Option Addr) (k cap : Nat) (hk : k ≤ cycN) (base : Nat) (w : World) (hS : Sl w base A (k * 16) (seenC f)) :
    Calls Try.prog 151 #[.slice A k cap, .agg #[.int .i64 (c 0), .int .i64 (c 1), .int .i64 (c 2), .int .i64 (c 3), .int .i64 (c 4), .int .i64 (c 5), .int .i64 (c 6), .int .i64 (c 7), .int .i64 (c 8), .int .i64 (c 9), .int .i64 (c 10), .int .i64 (c 11), .int .i64 (c 12), .int .i64 (c 13), .int .i64 (c 14), .int .i64 (c 15)]] w fun e w' => ∃ i, e = .returned (.int .i64 i) ∧ Ix f k c i ∧ Below w.heap.size w w' := by
  have hk2 : k ≤ 802963914769 := hk
  clear hk
  rcases Nat.eq_zero_or_pos k with h0 | h0
  · subst h0
    clear hS
    go_enter Try.func151, Try.ntmps151
    go_upto_region 2 with (fail)
    refine wp_loop_rounds 1 ?_
    rw [rounds_succ]
    go_wp2
    go_ret
    exact ⟨_, rfl, .inl ⟨rfl, fun j hj => absurd hj (Nat.not_lt_zero j)⟩, (by repeat (first | (with_reducible exact Below.refl _ _) | (with_reducible assumption) | (with_reducible refine below_go ?_ (by with_reducible assumption)) | (with_reducible refine below_new ?_ _) | ((with_reducible refine below_put ?_ ?_ _); rotate_left; (dsimp only; omega)) | (with_reducible refine Below.drew ?_) | (with_reducible refine below_dn ?_ _)))⟩
  · obtain ⟨g, rfl, _, hH⟩ := hS (by omega)
    have HS := hide hH
    have hgl := hH.2.2
    clear hH hS
    go_enter Try.func151, Try.ntmps151
    go_upto_region 1 with (fail)
    generalize hW : w.alloc _ = w1
    have hB : Below w.heap.size w w1 := by (rw [← hW]; exact (by repeat (first | (with_reducible exact Below.refl _ _) | (with_reducible assumption) | (with_reducible refine below_go ?_ (by with_reducible assumption)) | (with_reducible refine below_new ?_ _) | ((with_reducible refine below_put ?_ ?_ _); rotate_left; (dsimp only; omega)) | (with_reducible refine Below.drew ?_) | (with_reducible refine below_dn ?_ _))))
    have hsz : Hid (w1.heap.size = w.heap.size + 1) := hide (by rw [← hW]; simp)
    have i0 : Has w1 (w.heap.size) 16 (fun o => .int .i64 (c o)) := by (rw [← hW]; repeat (first | (refine Has.new ?_ rfl; simp; done) | refine Has.alloc ?_ _))
    have ci0 := i0.1; have fi0 := i0.2.1; have zi0 := i0.2.2
    clear hW
    clear ci0 fi0 zi0 hsz
    go_wp2_with fail
    go_loopw [5, 8] (fun _ v wr => ∃ m : Nat, m ≤ k ∧ v = .int .i64 m ∧ Hid (∀ j, j < m → eqB c (f j) = false) ∧ Below w.heap.size w wr ∧ Has wr w.heap.size 16 (fun o => .int .i64 (c o))) (fun _ i _ => k - (intOf i).toNat)
    case atStart => exact ⟨0, by omega, rfl, hide (fun j hj => absurd hj (Nat.not_lt_zero _)), hB, i0⟩
    case round =>
      clear hB i0
      obtain ⟨m, hm, rfl, hall, hB, i0⟩ := hrel
      by_cases hlt : m < k
      · have a0 : (0 : Int) ≤ m := by omega
        have a1 : (m : Int) < k := by omega
        have iL := HS.out.call hB
        have ziL := iL.2.2
        have zi0 := i0.2.2
        have hE := run_eql_Board c (f m)
        cases he : eqB c (f m)
        all_goals
          rw [he] at hE
          have HE := hide he
          clear he
          go_wp2_with fail
          refine wp_region_noPanic ?_
          refine wp_region_held_drew (S := (fun w' => RB w.heap.size c w' ∧ RBo g m (f m) w')) (by kernel_rfl) ?hS01 (fun hHeld => ?_)
          case hS01 => exact ⟨rb_of (Has.drew i0), rbo_of (Has.drew iL) (by omega)⟩
          have hB' : Below w.heap.size w (World.drew _) := Below.drew hB
          have iL' := Has.drew iL
          have i0' := Has.drew i0
          (try clear ciL); (try clear fiL)
          (try clear ci0); (try clear fi0)
          generalize hWW : World.drew _ = wx at *; clear hWW
          clear hB; have hB := hB'; clear hB'; clear iL ziL; have iL := iL'; clear iL'; have ziL := iL.2.2; clear i0 zi0; have i0 := i0'; clear i0'; have zi0 := i0.2.2
          refine take_d (i := 0) (some 11) (oi := _) (v := _) rfl rfl (by kernel_rfl) (by kernel_rfl) (by kernel_rfl) (fun _ _ _ h => h) (yieldsIf_load_mid (by rfl) _ _ rfl _ _ rfl _ _ (fun w h => h.1.r) Try.underlying25 rfl (by kernel_rfl)) (by assumption) ?_
          all_goals (try simp only [Act.put, List.setIfInBounds_toArray, List.set_cons_zero, List.set_cons_succ])
          refine take_d (i := 1) (some 12) (v := ?_) rfl rfl (by kernel_rfl) (by kernel_rfl) (by kernel_rfl) (fun _ _ _ h => h) (Or.inl ⟨by rfl, ?_⟩) (by assumption) ?_
          rotate_left; (intro w hSw; clear hSw; go_simp; try with_reducible rfl)
          all_goals (try simp only [Act.put, List.setIfInBounds_toArray, List.set_cons_zero, List.set_cons_succ])
          refine take_d (i := 2) (some 13) (v := ?_) rfl rfl (by kernel_rfl) (by kernel_rfl) (by kernel_rfl) (fun _ _ _ h => h) (Or.inl ⟨by rfl, ?_⟩) (by assumption) ?_
          rotate_left; (intro w hSw; clear hSw; go_simp; try with_reducible rfl)
          all_goals (try simp only [Act.put, List.setIfInBounds_toArray, List.set_cons_zero, List.set_cons_succ])
          refine take_d (i := 3) (some 14) (v := ?_) rfl rfl (by kernel_rfl) (by kernel_rfl) (by kernel_rfl) (fun _ _ _ h => h) (Or.inl ⟨by rfl, ?_⟩) (by assumption) ?_
          rotate_left; (intro w hSw; clear hSw; go_simp; try with_reducible rfl)
          all_goals (try simp only [Act.put, List.setIfInBounds_toArray, List.set_cons_zero, List.set_cons_succ])
          refine take_d (i := 4) (some 15) (oi := _) (v := _) rfl rfl (by kernel_rfl) (by kernel_rfl) (by kernel_rfl) (fun _ _ _ h => h) (yieldsIf_load_mid (by rfl) _ _ rfl _ _ rfl _ _ (fun w h => h.2.r) Try.underlying25 rfl (by kernel_rfl)) (by assumption) ?_
          all_goals (try simp only [Act.put, List.setIfInBounds_toArray, List.set_cons_zero, List.set_cons_succ])
          refine take_d (i := 5) (some 16) (v := ?_) rfl rfl (by kernel_rfl) (by kernel_rfl) (by kernel_rfl) (fun _ _ _ h => h) (Or.inl ⟨by rfl, ?_⟩) (by assumption) ?_
          rotate_left; (intro w hSw; clear hSw; go_simp; try with_reducible rfl)
          all_goals (try simp only [Act.put, List.setIfInBounds_toArray, List.set_cons_zero, List.set_cons_succ])
          refine wpAnyH_done (by kernel_rfl) ?_ _
          (try refine NoPanic.normal ?_)
          first
            | (go_wp2
               go_roundw
               case rel => exact ⟨m + 1, by omega, by go_num, hide (fun j hj => by
                 rcases (by omega : j < m ∨ j = m) with h | rfl
                 · exact hall.out j h
                 · exact HE.out), hB, i0⟩
               case measure => (simp [intOf]; omega))
            | (go_wp2
               go_ret
               exact ⟨_, rfl, .inr ⟨m, hlt, rfl, HE.out, hall.out⟩, hB⟩)
      · obtain rfl : m = k := by omega
        go_wp2
        go_ret
        exact ⟨_, rfl, .inl ⟨rfl, hall.out⟩, hB⟩

end Go.Proofs.Ytmjehagmgifchaa
