/-
  Words for ParseBoard.
-/
import Derived.Test.YtmjehagmgifchaaTxWords
import Derived.Test.YtmjehagmgifchaaZr
import Derived.Test.YtmjehagmgifchaaBoard1
import Derived.Lib.Bytealg
namespace Go.Proofs.Ytmjehagmgifchaa
open Go.RowKit

/-- The number of a sign, or -1. -/
def sgn (c : UInt8) : Int := Lib.indexByte tileL c
def pbC (s : ByteArray) (i : Nat) : UInt8 := s.data.toList.getD i 0
def pbF (s : ByteArray) : Nat → Int := fun p => sgn (pbC s (p + p / 4))
def pbStep (s : ByteArray) (i : Nat) : Bool := if i % 5 = 4 then decide (pbC s i = 47) else decide (0 ≤ sgn (pbC s i))
def pbUp (s : ByteArray) (n : Nat) : Bool := (List.range n).all (pbStep s)
def pbOk (s : ByteArray) : Bool := decide (s.size = 19) && pbUp s 19
def pbTo (s : ByteArray) (n : Nat) : Nat → Int := fun p => if p + p / 4 < n then pbF s p else 0
def pbTo16 (s : ByteArray) (n : Nat) : Nat → Int := fun p => if p < n then pbF s p else 0

theorem sgn_nat : ∀ n, n < 256 → -1 ≤ sgn (UInt8.ofNat n) ∧ sgn (UInt8.ofNat n) ≤ 17 ∧ (0 ≤ sgn (UInt8.ofNat n) → ltr (sgn (UInt8.ofNat n)).toNat = UInt8.ofNat n) := by decide +kernel
theorem sgn_all (c : UInt8) : -1 ≤ sgn c ∧ sgn c ≤ 17 ∧ (0 ≤ sgn c → ltr (sgn c).toNat = c) := by
  have h := sgn_nat c.toNat (UInt8.toNat_lt c)
  rwa [UInt8.ofNat_toNat] at h
/-- The sign of a number stands at it, and nowhere ahead. -/
theorem sgn_found : ∀ t, t < 18 → sgn (ltr t) = (t : Int) := by decide +kernel
theorem sgn_none {c : UInt8} (h : ∀ t, t < 18 → ltr t ≠ c) : sgn c = -1 := by
  obtain ⟨h1, h2, h3⟩ := sgn_all c
  by_cases h0 : 0 ≤ sgn c
  · exact absurd (h3 h0) (h _ (by omega))
  · omega
theorem pbF_range (s : ByteArray) (p : Nat) : -1 ≤ pbF s p ∧ pbF s p ≤ 17 := ⟨(sgn_all _).1, (sgn_all _).2.1⟩
theorem pbUp_iff (s : ByteArray) (n : Nat) : pbUp s n = true ↔ ∀ i, i < n → pbStep s i = true := by
  unfold pbUp
  rw [List.all_eq_true]
  exact ⟨fun h i hi => h i (List.mem_range.2 hi), fun h i hi => h i (List.mem_range.1 hi)⟩
theorem pbOk_not {s : ByteArray} {i : Nat} (hi : i < 19) (h : pbStep s i = false) : pbOk s = false := by
  unfold pbOk
  cases e : pbUp s 19
  · simp
  · rw [(pbUp_iff s 19).1 e i hi] at h; cases h
theorem pbOk_long {s : ByteArray} (h : s.size ≠ 19) : pbOk s = false := by simp [pbOk, h]
theorem pbOk_yes {s : ByteArray} (h : s.size = 19) (hall : ∀ i, i < 19 → pbStep s i = true) : pbOk s = true := by
  simp [pbOk, h, (pbUp_iff s 19).2 hall]
theorem pbTo_full (s : ByteArray) {p : Nat} (hp : p < 16) : pbTo s 19 p = pbF s p := by
  unfold pbTo; rw [if_pos (by omega)]
theorem pbTo16_full (s : ByteArray) {p : Nat} (hp : p < 16) : pbTo16 s 16 p = pbF s p := by
  unfold pbTo16; rw [if_pos hp]
theorem pbTo16_succ (s : ByteArray) {n o : Nat} : (if o = n then pbF s n else pbTo16 s n o) = pbTo16 s (n + 1) o := by
  unfold pbTo16
  by_cases h : o = n
  · subst h; rw [if_pos rfl, if_pos (by omega)]
  · rw [if_neg h]
    by_cases h2 : o < n
    · rw [if_pos h2, if_pos (by omega)]
    · rw [if_neg h2, if_neg (by omega)]
theorem pbTo_same (s : ByteArray) {i : Nat} (h : i % 5 = 4) : pbTo s (i + 1) = pbTo s i := by
  funext p
  unfold pbTo
  by_cases h2 : p + p / 4 < i
  · rw [if_pos h2, if_pos (by omega)]
  · rw [if_neg h2, if_neg (by omega)]
theorem pbTo_succ (s : ByteArray) {i o : Nat} (h : i % 5 ≠ 4) : (if o = i / 5 * 4 + i % 5 then sgn (pbC s i) else pbTo s i o) = pbTo s (i + 1) o := by
  unfold pbTo
  by_cases h2 : o = i / 5 * 4 + i % 5
  · have e : o + o / 4 = i := by omega
    rw [if_pos h2, if_pos (by omega)]
    unfold pbF; rw [e]
  · rw [if_neg h2]
    by_cases h3 : o + o / 4 < i
    · rw [if_pos h3, if_pos (by omega)]
    · rw [if_neg h3, if_neg (by omega)]

theorem data19 {s : ByteArray} (h : s.size = 19) : s.data.toList = [pbC s 0, pbC s 1, pbC s 2, pbC s 3, pbC s 4, pbC s 5, pbC s 6, pbC s 7, pbC s 8, pbC s 9, pbC s 10, pbC s 11, pbC s 12, pbC s 13, pbC s 14, pbC s 15, pbC s 16, pbC s 17, pbC s 18] := by
  have hl : s.data.toList.length = 19 := by simpa using h
  unfold pbC
  match hs : s.data.toList, hl with
  | [a0, a1, a2, a3, a4, a5, a6, a7, a8, a9, a10, a11, a12, a13, a14, a15, a16, a17, a18], _ => rfl
theorem txL_lit (b : Nat → Int) : txL b = [ltr (b 0).toNat, ltr (b 1).toNat, ltr (b 2).toNat, ltr (b 3).toNat, 47, ltr (b 4).toNat, ltr (b 5).toNat, ltr (b 6).toNat, ltr (b 7).toNat, 47, ltr (b 8).toNat, ltr (b 9).toNat, ltr (b 10).toNat, ltr (b 11).toNat, 47, ltr (b 12).toNat, ltr (b 13).toNat, ltr (b 14).toNat, ltr (b 15).toNat] := rfl
theorem pb_ltr {s : ByteArray} {p : Nat} (h : 0 ≤ pbF s p) : ltr (pbF s p).toNat = pbC s (p + p / 4) := (sgn_all _).2.2 h
theorem mkS_list (s : ByteArray) : mkS s.data.toList = s := by
  apply ByteArray.ext; simp [mkS]
theorem mkS_inj {l : List UInt8} {s : ByteArray} (h : mkS l = s) : l = s.data.toList := by
  rw [← h]; simp [mkS]
/-- A text is one of a board just where the board's own text is it. -/
theorem pb_bd {s : ByteArray} : bdB (pbF s) = true ↔ ∀ p, p < 16 → 0 ≤ pbF s p := by
  have hr := fun p => (pbF_range s p).2
  have hi : ∀ p, inB (pbF s p) 0 17 = true ↔ 0 ≤ pbF s p := fun p => by
    have := hr p
    simp [inB, this]
  constructor
  · intro h p hp
    simp only [bdB, rowB, Bool.and_eq_true] at h
    rcases (by omega : p = 0 ∨ p = 1 ∨ p = 2 ∨ p = 3 ∨ p = 4 ∨ p = 5 ∨ p = 6 ∨ p = 7 ∨ p = 8 ∨ p = 9 ∨ p = 10 ∨ p = 11 ∨ p = 12 ∨ p = 13 ∨ p = 14 ∨ p = 15) with rfl | rfl | rfl | rfl | rfl | rfl | rfl | rfl | rfl | rfl | rfl | rfl | rfl | rfl | rfl | rfl <;> (refine (hi _).1 ?_; simp [h])
  · intro h
    simp only [bdB, rowB, Bool.and_eq_true]
    have h' := fun p hp => (hi p).2 (h p hp)
    simp [h' 0 (by omega), h' 1 (by omega), h' 2 (by omega), h' 3 (by omega), h' 4 (by omega), h' 5 (by omega), h' 6 (by omega), h' 7 (by omega), h' 8 (by omega), h' 9 (by omega), h' 10 (by omega), h' 11 (by omega), h' 12 (by omega), h' 13 (by omega), h' 14 (by omega), h' 15 (by omega)]
theorem pbStep_sep {s : ByteArray} {i : Nat} (h : i % 5 = 4) : pbStep s i = true ↔ pbC s i = 47 := by simp [pbStep, h]
theorem pbStep_sgn {s : ByteArray} {p : Nat} : pbStep s (p + p / 4) = true ↔ 0 ≤ pbF s p := by
  have : ¬ (p + p / 4) % 5 = 4 := by omega
  simp [pbStep, this, pbF]
theorem pbOk_text {s : ByteArray} (h : s.size = 19) : pbOk s = (bdB (pbF s) && decide (mkS (txL (pbF s)) = s)) := by
  rw [Bool.eq_iff_iff, Bool.and_eq_true, decide_eq_true_eq]
  have hd := data19 h
  constructor
  · intro hok
    have hup := (pbUp_iff s 19).1 (by simpa [pbOk, h] using hok)
    have hall : ∀ p, p < 16 → 0 ≤ pbF s p := fun p hp => pbStep_sgn.1 (hup _ (by omega))
    refine ⟨pb_bd.2 hall, ?_⟩
    have e4 := (pbStep_sep (by decide)).1 (hup 4 (by omega))
    have e9 := (pbStep_sep (by decide)).1 (hup 9 (by omega))
    have e14 := (pbStep_sep (by decide)).1 (hup 14 (by omega))
    have hl := fun p hp => pb_ltr (hall p hp)
    refine Eq.trans ?_ (mkS_list s)
    rw [hd, txL_lit, hl 0 (by omega), hl 1 (by omega), hl 2 (by omega), hl 3 (by omega), hl 4 (by omega), hl 5 (by omega), hl 6 (by omega), hl 7 (by omega), hl 8 (by omega), hl 9 (by omega), hl 10 (by omega), hl 11 (by omega), hl 12 (by omega), hl 13 (by omega), hl 14 (by omega), hl 15 (by omega), e4, e9, e14]
  · rintro ⟨hb, ht⟩
    have hall := pb_bd.1 hb
    have e := mkS_inj ht
    rw [hd, txL_lit] at e
    simp only [List.cons.injEq] at e
    refine pbOk_yes h fun i hi => ?_
    by_cases h4 : i % 5 = 4
    · refine (pbStep_sep h4).2 ?_
      rcases (by omega : i = 4 ∨ i = 9 ∨ i = 14) with rfl | rfl | rfl
      · exact e.2.2.2.2.1.symm
      · exact e.2.2.2.2.2.2.2.2.2.1.symm
      · exact e.2.2.2.2.2.2.2.2.2.2.2.2.2.2.1.symm
    · have e2 : i = (i / 5 * 4 + i % 5) + (i / 5 * 4 + i % 5) / 4 := by omega
      rw [e2]
      exact pbStep_sgn.2 (hall _ (by omega))
theorem pbF_in17 {s : ByteArray} (h : bdB (pbF s) = true) : In17 (pbF s) 16 := fun p hp => ⟨pb_bd.1 h p hp, (pbF_range s p).2⟩

end Go.Proofs.Ytmjehagmgifchaa
