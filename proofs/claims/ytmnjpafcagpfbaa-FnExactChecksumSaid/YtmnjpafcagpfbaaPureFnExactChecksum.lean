/- For every string the law FnExactChecksum answers true: the program's Checksum and the reference's agree. No condition. -/
import Derived.Test.YtmnjpafcagpfbaaPFnExactChecksumx1
namespace Go.Proofs.Ytmnjpafcagpfbaa.Pure
open Go.RowKit Go.Proofs.Ytmnjpafcagpfbaa.PFnExactChecksum Go.Proofs.YtmnjpafcagpfbaaW.PrintWords Go.Proofs.YtmnjpafcagpfbaaW.PrintLast

theorem both (s : ByteArray) : ∀ (k : Nat) (h i : Int), impl_Checksum.l0 k s h (s.size : Int) i = (spec_l1Sum.l0 k s h i).map fun r => (r, true)
  | 0, _, _ => rfl
  | k + 1, h, i => by
    by_cases h1 : i < (s.size : Int)
    · by_cases h0 : 0 ≤ i
      · simp only [impl_Checksum.l0, spec_l1Sum.l0, if_pos h1, if_pos h0]
        exact both s k _ _
      · simp only [impl_Checksum.l0, spec_l1Sum.l0, if_pos h1, if_neg h0]
        rfl
    · simp only [impl_Checksum.l0, spec_l1Sum.l0, if_neg h1]
      rfl

theorem ends (s : ByteArray) (hn : s.size ≤ 140737488351232) : ∀ (d : Nat) (h i : Int), 0 ≤ i → (s.size : Int) - i ≤ d → ∃ r, spec_l1Sum.l0 (d + 1) s h i = some r
  | 0, h, i, h0, hd => ⟨h, by simp only [spec_l1Sum.l0]; rw [if_neg (by omega)]⟩
  | d + 1, h, i, h0, hd => by
    by_cases h1 : i < (s.size : Int)
    · have hw : wrap64 (i + 1) = i + 1 := by unfold wrap64; omega
      rw [spec_l1Sum.l0, if_pos h1, if_pos h0, hw]
      exact ends s hn d _ _ (by omega) (by omega)
    · exact ⟨h, by rw [spec_l1Sum.l0, if_neg h1]⟩

theorem FnExactChecksum : laws_FnExactChecksum.Pure := by
  intro s hn
  obtain ⟨r, hr⟩ := ends s hn s.size 7 0 (by omega) (by omega)
  refine ⟨s.size + 1, ?_⟩
  unfold laws_FnExactChecksum.f spec_Checksum.f impl_Checksum.f spec_l1Sum.f
  rw [both, hr]
  split
  · rfl
  · split <;> simp

end Go.Proofs.Ytmnjpafcagpfbaa.Pure
