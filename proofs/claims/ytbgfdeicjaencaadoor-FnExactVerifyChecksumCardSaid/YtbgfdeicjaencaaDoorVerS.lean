/-
  Contract: VerifyChecksum, the reference's.
-/
import Derived.Test.YtbgfdeicjaencaaDoorVer
import Derived.Test.YtbgfdeicjaencaaDoorSplit
namespace Go.Proofs.YtbgfdeicjaencaaDoor
open Go.RowKit

theorem hdL_len (l : List UInt8) : (hdL l).length ≤ l.length ∧ hdL l = l.take (hdL l).length := by
  rcases idx_hd l with ⟨_, h⟩ | ⟨_, h1, h2⟩
  · rw [h]; simp
  · exact ⟨Nat.le_of_lt h1, h2⟩
theorem hdL_at (l : List UInt8) : (∀ j, j < (hdL l).length → l.getD j 0 ≠ 35) ∧ ((hdL l).length < l.length → l.getD (hdL l).length 0 = 35) := by
  induction l with
  | nil => exact ⟨fun j hj => absurd hj (Nat.not_lt_zero j), fun h => absurd h (Nat.lt_irrefl 0)⟩
  | cons a l ih =>
    by_cases h : a = 35
    · subst h
      exact ⟨fun j hj => absurd hj (Nat.not_lt_zero j), fun _ => rfl⟩
    · rw [hdL_cons h]
      refine ⟨fun j hj => ?_, fun hj => ?_⟩
      · cases j with
        | zero => simpa using h
        | succ j => simpa using ih.1 j (by simpa using hj)
      · simpa using ih.2 (by simpa using hj)
theorem spTo_lo (s : ByteArray) : ∀ k, k ≤ (hdL s.data.toList).length → spTo s 35 k = ([], 0)
  | 0, _ => rfl
  | k + 1, h => by
    unfold spTo
    rw [if_neg ((hdL_at _).1 k (by omega)), spTo_lo s k (by omega)]
theorem spTo_hi (s : ByteArray) (h : (hdL s.data.toList).length < s.data.toList.length) : ∀ d, (spTo s 35 ((hdL s.data.toList).length + 1 + d)).1[0]? = some (s.extract 0 (hdL s.data.toList).length)
  | 0 => by
    show (spTo s 35 ((hdL s.data.toList).length + 1)).1[0]? = _
    unfold spTo
    rw [if_pos ((hdL_at _).2 h), spTo_lo s _ (Nat.le_refl _)]
    rfl
  | d + 1 => by
    have ih := spTo_hi s h d
    show (spTo s 35 ((hdL s.data.toList).length + 1 + d + 1)).1[0]? = _
    unfold spTo
    split
    · obtain ⟨h1, h2⟩ := List.getElem?_eq_some_iff.1 ih
      rw [List.getElem?_append_left h1, ih]
    · exact ih
theorem spR_head (s : ByteArray) : (spR s 35)[0]? = some (hdS s) := by
  obtain ⟨h1, h2⟩ := hdL_len s.data.toList
  have hx := hd_extract s h2
  unfold spR
  have hsz : s.data.toList.length = s.size := by simp
  by_cases h : (hdL s.data.toList).length < s.data.toList.length
  · have e := spTo_hi s h (s.size - (hdL s.data.toList).length - 1)
    rw [show (hdL s.data.toList).length + 1 + (s.size - (hdL s.data.toList).length - 1) = s.size by omega] at e
    obtain ⟨h3, _⟩ := List.getElem?_eq_some_iff.1 e
    rw [List.getElem?_append_left h3, e, hx]
  · have e : (hdL s.data.toList).length = s.size := by omega
    rw [spTo_lo s s.size (by omega)]
    rw [e] at hx
    simp [hx]

theorem own_head {w : World} {base : Nat} {v : Value} {l : List ByteArray} {x : ByteArray} (h : w.ownsRow base 9 1 v l.length (strsV l)) (h0 : l[0]? = some x) : ∃ g n cap, v = .slice (some ⟨g, 0, none⟩) n cap ∧ 0 < n ∧ w.cell? ⟨g, 0, none⟩ = some (.string x) := by
  have hlen := (List.getElem?_eq_some_iff.1 h0).1
  rcases h.2 with ⟨_, h2⟩ | ⟨g, cap, cur, rfl, hg, hh, hnc, _, _, _⟩
  · simp [strsV] at h2
    subst h2
    simp at hlen
  · refine ⟨g, _, cap, rfl, hlen, ?_⟩
    have := h.cellAt 0 (by omega)
    rw [this]
    simp [strsV, h0]

set_option maxRecDepth 100000 in
set_option maxHeartbeats 4000000 in
theorem specVerify_any (s : ByteArray) (hm : s.size ≤ 140737488351232) (w : World) : Calls Tryd.prog 19 #[.string s] w fun e w' => e = .returned (.tuple #[.string (vfS s), .bool (vfOk s)]) ∧ Below w.heap.size w w' := by
  by_cases h4 : s.size ≤ 4000
  · have e1 : decide ((s.size : Int) > 4000) = false := decide_eq_false (by omega)
    have e2 : (s.size : Int) ≤ 4000 := by omega
    have HSP := hide (l1Split_own s 35 (by omega) w)
    have hhs : (hdS s).size ≤ 140737488351232 := by
      have := (hdL_len s.data.toList).1
      rw [hdS_size]; simp at this; omega
    have HSL := hide (fun w => l1Seal_any (hdS s) hhs w)
    have HD := hide (spR_head s)
    have H4 := hide h4
    clear h4
    go_enter Tryd.func19, Tryd.ntmps19
    go_wp2_with fail
    refine HSP.out.mono ?_
    rintro e w2 ⟨v, rfl, hown, hb2⟩
    obtain ⟨g, n, cap, rfl, hn, hc⟩ := own_head hown HD.out
    have hn0 : (0 : Int) < n := by omega
    clear hown
    cases hv : vfOk s
    · have HA := hide (vf_no hv)
      have hne : slS (hdS s) ≠ s := by intro h; have h4 := H4.out; simp [vfOk, h4, h] at hv
      generalize slS (hdS s) = X at *
      have hne2 : (X.toList == s.toList) = false := by
        simp only [beq_eq_false_iff_ne, ne_eq]
        intro h
        rw [ByteArray.toList_eq, ByteArray.toList_eq] at h
        exact hne (by rw [← mkS_data X, h, mkS_data])
      clear hne hv
      go_wp2_with (go_at_call 43; (refine (HSL.out _).mono ?_); rintro e w3 ⟨rfl, hb3⟩)
      go_ret2
      exact ⟨HA.out, below_go hb2 hb3⟩
    · have HA := hide (vf_yes hv)
      have e5 := (ap_hd hv).2
      rw [e5] at HSL
      clear hv e5
      go_wp2_with (go_at_call 43; (refine (HSL.out _).mono ?_); rintro e w3 ⟨rfl, hb3⟩)
      go_ret2
      exact ⟨HA.out, below_go hb2 hb3⟩
  · have e1 : decide ((s.size : Int) > 4000) = true := decide_eq_true (by omega)
    have e2 : 4000 < (s.size : Int) := by omega
    have HA := hide (vf_no (s := s) (by simp [vfOk, h4]))
    clear h4
    go_enter Tryd.func19, Tryd.ntmps19
    go_wp2
    go_ret2
    exact ⟨HA.out, Below.refl _ _⟩

end Go.Proofs.YtbgfdeicjaencaaDoor
