/-
  Contract: SplitString, with the room of what it hands back. Words: parts that are joined are the text; which texts are less.
-/
import Derived.Test.YtpbfdmliegjagaaDoorQSl0
import Derived.Test.YtpbfdmliegjagaaDoorQStrS
import Derived.Test.YtpbfdmliegjagaaDoorQArgB
import Derived.Lib.IndexAny
import Derived.Test.YtpbfdmliegjagaaDoorBase0
import Derived.Test.YtpbfdmliegjagaaDoorRows
import Derived.Handed
import Derived.HandedShaped
import Derived.Shelf.Vars
namespace Go.Proofs.YtpbfdmliegjagaaDoor
open Go.RowKit

theorem split_cap (s : ByteArray) (c : UInt8) (hs : s.size ≤ 4000) (w : World) (hm : MaxI w) :
    Calls Tryd.prog 27 #[.string s, .string ⟨#[c]⟩] w fun e w' => ∃ A cap, e = .returned (.slice A (spR s c).length cap) ∧ (spR s c).length ≤ cap ∧ Sl w' w.heap.size A (spR s c).length (fun o => .string (fS (spR s c) o)) ∧ Below w.heap.size w w' := by
  obtain ⟨m, hm⟩ := hm
  have h := Tryd.strings_Split s ⟨#[c]⟩ m w (by omega) hm (Nat.le_refl _)
  rw [split_len, split_one] at h
  refine h.mono ?_
  rintro e w' ⟨rfl, rfl⟩
  have hn := Has.new' (w := w) (cs := ((spR s c).map Value.string).toArray) (T := 9) (n := (spR s c).length) (by simp)
  refine ⟨_, _, rfl, Nat.le_refl _, fun _ => ⟨_, rfl, Nat.le_refl _, hn.congr fun o ho => ?_⟩, (by repeat (first | (with_reducible exact Below.refl _ _) | (with_reducible assumption) | (with_reducible refine below_go ?_ (by with_reducible assumption)) | (with_reducible refine below_new ?_ _) | ((with_reducible refine below_put ?_ ?_ _); rotate_left; (dsimp only; omega)) | (with_reducible refine Below.drew ?_) | (with_reducible refine below_dn ?_ _)))⟩
  simp [fS, ho]
set_option maxRecDepth 100000 in
set_option maxHeartbeats 4000000 in
theorem implSplit_cap (s sep : ByteArray) (w : World) (hm : MaxI w) : Calls Tryd.prog 7 #[.string s, .string sep] w fun e w' => ∃ A cap, e = .returned (.tuple #[.slice A (ssL s sep).length cap, .bool (ssOk s sep)]) ∧ (ssL s sep).length ≤ cap ∧ Sl w' w.heap.size A (ssL s sep).length (fun o => .string (fS (ssL s sep) o)) ∧ Below w.heap.size w w' := by
  cases h : ssOk s sep
  · have e0 : ssL s sep = [] := by simp [ssL, h]
    rw [e0]
    rcases ssOk_out h with h1 | ⟨h1, h2⟩
    · have a1 : (4000 : Int) < s.size := by omega
      have a2 : decide ((s.size : Int) > 4000) = true := decide_eq_true (by omega)
      clear h e0
      go_enter Tryd.func7, Tryd.ntmps7
      go_wp2
      go_ret2
      exact ⟨_, _, rfl, Nat.zero_le _, sl_zero _ _ _ _, (by repeat (first | (with_reducible exact Below.refl _ _) | (with_reducible assumption) | (with_reducible refine below_go ?_ (by with_reducible assumption)) | (with_reducible refine below_new ?_ _) | ((with_reducible refine below_put ?_ ?_ _); rotate_left; (dsimp only; omega)) | (with_reducible refine Below.drew ?_) | (with_reducible refine below_dn ?_ _)))⟩
    · have a1 : (s.size : Int) ≤ 4000 := by omega
      have a2 : decide ((s.size : Int) > 4000) = false := decide_eq_false (by omega)
      have a3 : ((sep.size : Int) != 1) = true := by simp; omega
      clear h e0 h2
      go_enter Tryd.func7, Tryd.ntmps7
      go_wp2
      go_ret2
      exact ⟨_, _, rfl, Nat.zero_le _, sl_zero _ _ _ _, (by repeat (first | (with_reducible exact Below.refl _ _) | (with_reducible assumption) | (with_reducible refine below_go ?_ (by with_reducible assumption)) | (with_reducible refine below_new ?_ _) | ((with_reducible refine below_put ?_ ?_ _); rotate_left; (dsimp only; omega)) | (with_reducible refine Below.drew ?_) | (with_reducible refine below_dn ?_ _)))⟩
  · obtain ⟨h1, h2⟩ := ssOk_bounds h
    obtain ⟨c, rfl⟩ := one_sep h2
    have e0 : ssL s ⟨#[c]⟩ = spR s c := by simp [ssL, h]
    rw [e0]
    have a1 : (s.size : Int) ≤ 4000 := by omega
    have a2 : decide ((s.size : Int) > 4000) = false := decide_eq_false (by omega)
    have HS := hide (split_cap s c h1 w hm)
    clear h e0 h2 hm
    go_enter Tryd.func7, Tryd.ntmps7
    go_wp2_with (go_at_call 27; (with_reducible refine HS.out.mono ?_); rintro e w2 ⟨A, cap, rfl, hc, hS, hb2⟩)
    go_ret2
    exact ⟨_, _, rfl, hc, hS, hb2⟩


theorem join_spL (c : UInt8) : ∀ l, Lib.join (spL c l) [c] = l
  | [] => by simp [spL, Lib.join_one]
  | a :: l => by
    have ih := join_spL c l
    simp only [spL]
    by_cases h : a = c
    · rw [if_pos h]
      cases hs : spL c l with
      | nil => exact absurd hs (spL_ne c l)
      | cons x r =>
        rw [hs] at ih
        rw [Lib.join_cons] at ih ⊢
        simp only [Lib.joinTail, List.map_cons, List.flatten_cons, List.nil_append] at ih ⊢
        rw [h]
        simp only [List.cons_append, List.cons.injEq, true_and]
        exact ih
    · rw [if_neg h]
      cases hs : spL c l with
      | nil => exact absurd hs (spL_ne c l)
      | cons x r =>
        rw [hs] at ih
        rw [Lib.join_cons] at ih ⊢
        simp only [List.cons_append, List.cons.injEq, true_and]
        exact ih
theorem spL_free (c : UInt8) : ∀ l q, q ∈ spL c l → ∀ a, a ∈ q → a ≠ c
  | [], q, hq, a, ha => by
    simp [spL] at hq
    subst hq; cases ha
  | b :: l, q, hq, a, ha => by
    have ih := spL_free c l
    simp only [spL] at hq
    by_cases h : b = c
    · rw [if_pos h] at hq
      rcases List.mem_cons.1 hq with rfl | hq
      · cases ha
      · exact ih q hq a ha
    · rw [if_neg h] at hq
      cases hs : spL c l with
      | nil => exact absurd hs (spL_ne c l)
      | cons x r =>
        rw [hs] at hq ih
        rcases List.mem_cons.1 hq with rfl | hq
        · rcases List.mem_cons.1 ha with rfl | ha
          · exact h
          · exact ih x (List.mem_cons_self ..) a ha
        · exact ih q (List.mem_cons_of_mem _ hq) a ha
theorem fS_map (L : List ByteArray) : (List.range L.length).map (fun j => (fS L j).data.toList) = L.map (·.data.toList) := by
  apply List.ext_getElem
  · simp
  · intro i h1 h2
    simp at h2
    simp [fS, h2]
theorem split_both (s : ByteArray) (c : UInt8) (hs : s.size ≤ 4000) : jL (fS (spR s c)) c (spR s c).length = s.data.toList ∧ Good (fS (spR s c)) (spR s c).length c := by
  have hp := (spR_len s c).1
  have hj : jL (fS (spR s c)) c (spR s c).length = s.data.toList := by
    unfold jL
    rw [fS_map, spR_lists, join_spL]
  have hfree : ∀ j, j < (spR s c).length → stB (fS (spR s c) j) c = false := by
    intro j hj
    cases e : stB (fS (spR s c) j) c
    · rfl
    · unfold stB at e
      rw [List.contains_iff_mem] at e
      refine absurd rfl (spL_free c s.data.toList (fS (spR s c) j).data.toList ?_ c e)
      rw [← spR_lists]
      refine List.mem_map.2 ⟨fS (spR s c) j, ?_, rfl⟩
      have e2 : fS (spR s c) j = (spR s c)[j] := by simp [fS, hj]
      rw [e2]
      exact List.getElem_mem hj
  have hG : Good (fS (spR s c)) (spR s c).length c := by
    refine ⟨hfree, ?_⟩
    obtain ⟨k, hk⟩ : ∃ k, (spR s c).length = k + 1 := ⟨(spR s c).length - 1, by omega⟩
    have h := jL_len (fS (spR s c)) c k
    rw [← hk, hj, Array.length_toList] at h
    have h2 : s.data.size = s.size := rfl
    omega
  exact ⟨hj, hG⟩
theorem split_good (s : ByteArray) (c : UInt8) (hs : s.size ≤ 4000) : Good (fS (spR s c)) (spR s c).length c := (split_both s c hs).2
/-- Parts that are joined again are the text. -/
theorem split_join {s : ByteArray} {c : UInt8} (hs : s.size ≤ 4000) : JR (fS (spR s c)) (spR s c).length ⟨#[c]⟩ s true := by
  obtain ⟨hj, hG⟩ := split_both s c hs
  have hp := (spR_len s c).1
  refine ⟨fun c' e h0 hG' => ?_, fun hno => absurd ⟨c, rfl, hp, hG⟩ hno⟩
  have hc : c' = c := by injection e with e; injection e with e; injection e with e; exact e.symm
  subst hc
  exact ⟨by rw [hj, mkS_data], rfl⟩
theorem tot_le {L : List ByteArray} {b : Nat} (h : ∀ t, t ∈ L → t.size ≤ b) : ∀ k, k ≤ L.length → tot (fS L) k ≤ k * b
  | 0, _ => by simp [tot]
  | k + 1, hk => by
    have ih := tot_le h k (by omega)
    have h2 : (fS L k).size ≤ b := by
      have e2 : fS L k = L[k] := by simp [fS, show k < L.length by omega]
      rw [e2]
      exact h _ (List.getElem_mem _)
    show tot (fS L) k + (fS L k).size ≤ (k + 1) * b
    rw [Nat.add_mul]; omega
theorem less_asym : ∀ a, a ∈ anyL → ∀ b, b ∈ anyL → Op.bytesLess a.toList b.toList = true → Op.bytesLess b.toList a.toList = false := by decide +kernel
theorem implLess_any (a b : ByteArray) (w : World) : Calls Tryd.prog 12 #[.string a, .string b] w fun e w' => e = .returned (.bool (Op.bytesLess a.toList b.toList)) ∧ Below w.heap.size w w' := by
  go_enter Tryd.func12, Tryd.ntmps12
  go_wp2
  go_ret
  exact ⟨rfl, (by repeat (first | (with_reducible exact Below.refl _ _) | (with_reducible assumption) | (with_reducible refine below_go ?_ (by with_reducible assumption)) | (with_reducible refine below_new ?_ _) | ((with_reducible refine below_put ?_ ?_ _); rotate_left; (dsimp only; omega)) | (with_reducible refine Below.drew ?_) | (with_reducible refine below_dn ?_ _)))⟩
theorem specLess_any (a b : ByteArray) (w : World) : Calls Tryd.prog 13 #[.string a, .string b] w fun e w' => e = .returned (.bool (Op.bytesLess a.toList b.toList)) ∧ Below w.heap.size w w' := by
  go_enter Tryd.func13, Tryd.ntmps13
  go_wp2
  go_ret
  exact ⟨rfl, (by repeat (first | (with_reducible exact Below.refl _ _) | (with_reducible assumption) | (with_reducible refine below_go ?_ (by with_reducible assumption)) | (with_reducible refine below_new ?_ _) | ((with_reducible refine below_put ?_ ?_ _); rotate_left; (dsimp only; omega)) | (with_reducible refine Below.drew ?_) | (with_reducible refine below_dn ?_ _)))⟩
theorem own_strs {w : World} {base : Nat} {u : Value} {L : List ByteArray} (h : w.ownsRow base 9 1 u L.length (strs L)) (hu : u ≠ .slice none 0 0) : ∃ g cap, u = .slice (some ⟨g, 0, none⟩) L.length cap ∧ L.length ≤ cap ∧ Has w g L.length (fun o => .string (fS L o)) := by
  rcases h.2 with ⟨rfl, _⟩ | ⟨g, cap, cur, rfl, hg, hh, hnc, hm, hs, ht⟩
  · exact absurd rfl hu
  · refine ⟨g, cap, rfl, hnc, fun o ho => ?_, fun o => h.frozenAt o, (Array.getElem?_eq_some_iff.1 hh).1⟩
    rw [h.cellAt o (by omega)]
    simp [strs, fS, ho]

end Go.Proofs.YtpbfdmliegjagaaDoor

namespace Go.Proofs.YtpbfdmliegjagaaDoor
open Go.RowKit

theorem Calls.quiet_of_eq {P : Program} {f : FuncId} {args : Array Value} {w : World} {n : Nat} {v : Value} (h : Calls P f args (w.drewN n) fun e w' => e = .returned v ∧ w.drewN n = w') : Calls P f args (w.drewN n) fun e w'' => e = .returned v ∧ ∃ m, w'' = w.drewN m :=
  h.mono fun _ _ ⟨he, hm⟩ => ⟨he, n, hm.symm⟩
theorem ret_no {p : Nat → ByteArray} {n : Nat} {sep s : ByteArray} {ok : Bool} (h : JR p n sep s ok) (hn : ¬ ∃ c, sep = ⟨#[c]⟩ ∧ 0 < n ∧ Good p n c) : Ending.returned (.tuple #[.string ⟨#[]⟩, .bool false]) = .returned (.tuple #[.string s, .bool ok]) := by
  obtain ⟨rfl, rfl⟩ := h.2 hn
  rfl
theorem ret_yes {p : Nat → ByteArray} {n : Nat} {c : UInt8} {s : ByteArray} {ok : Bool} (h : JR p n ⟨#[c]⟩ s ok) (h0 : 0 < n) (hG : Good p n c) : Ending.returned (.tuple #[.string (mkS (jL p c n)), .bool true]) = .returned (.tuple #[.string s, .bool ok]) := by
  obtain ⟨rfl, rfl⟩ := h.1 c rfl h0 hG
  rfl
theorem not_stand {p : Nat → ByteArray} {n k : Nat} {c : UInt8} (hk : k < n) (h : stB (p k) c = true) : ¬ ∃ c', (⟨#[c]⟩ : ByteArray) = ⟨#[c']⟩ ∧ 0 < n ∧ Good p n c' := by
  rintro ⟨c', e, _, hG, _⟩
  have : c' = c := by injection e with e; injection e with e; injection e with e; exact e.symm
  subst this
  rw [hG k hk] at h; cases h
theorem not_long {p : Nat → ByteArray} {n k : Nat} {c : UInt8} (hk : k < n) (h : 4000 < tot p (k + 1) + k) : ¬ ∃ c', (⟨#[c]⟩ : ByteArray) = ⟨#[c']⟩ ∧ 0 < n ∧ Good p n c' := by
  rintro ⟨c', _, _, _, hG⟩
  have := tot_mono p (show k + 1 ≤ n by omega)
  omega
theorem jL_size (p : Nat → ByteArray) (c : UInt8) (k : Nat) : (mkS (jL p c k)).size = tot p k + (k - 1) := by
  rw [mkS_size]
  cases k with
  | zero => simp [jL, Lib.join_nil, tot]
  | succ k => rw [jL_len]; simp

set_option maxRecDepth 100000 in
set_option maxHeartbeats 8000000 in
theorem specJoin_any (p : Nat → ByteArray) (n cap g : Nat) (sep : ByteArray) (s : ByteArray) (ok : Bool) (hR : JR p n sep s ok) (hn : n ≤ 1048576) (ht : tot p n ≤ 1048576) (w : World) (hH : Has w g n (fun o => .string (p o))) :
    Calls Tryd.prog 10 #[.slice (some ⟨g, 0, none⟩) n cap, .string sep] w fun e w' => e = .returned (.tuple #[.string s, .bool ok]) ∧ Below w.heap.size w w' := by
  by_cases h1 : sep.size = 1
  · obtain ⟨c, rfl⟩ := one_byte h1
    by_cases h0 : n = 0
    · subst h0
      have HR := hide (ret_no hR (by rintro ⟨_, _, h, _⟩; omega))
      clear hR hH
      go_enter Tryd.func10, Tryd.ntmps10
      go_wp2
      go_ret2
      exact ⟨HR.out, (by repeat (first | (with_reducible exact Below.refl _ _) | (with_reducible assumption) | (with_reducible refine below_go ?_ (by with_reducible assumption)) | (with_reducible refine below_new ?_ _) | ((with_reducible refine below_put ?_ ?_ _); rotate_left; (dsimp only; omega)) | (with_reducible refine Below.drew ?_) | (with_reducible refine below_dn ?_ _)))⟩
    · have hpos : 0 < n := by omega
      have hpi : (0 : Int) < n := by omega
      have hne : ((n : Int) == 0) = false := by simpa using h0
      have HR := hide hR
      have H1 := hide hH
      have HT := hide (fun k (hk : k < n) => tot_one p hk)
      clear hR hH h0 h1
      go_enter Tryd.func10, Tryd.ntmps10
      go_wp2
      go_loopw [6, 7] (fun v i wr => ∃ k : Nat, k ≤ n ∧ i = .int .i64 k ∧ v = .string (mkS (jL p c k)) ∧ Hid (∀ j, j < k → stB (p j) c = false) ∧ tot p k + k ≤ 4001 ∧ Below w.heap.size w wr) (fun _ i _ => n - (intOf i).toNat)
      case atStart => exact ⟨0, by omega, rfl, rfl, hide (fun j hj => absurd hj (Nat.not_lt_zero _)), by simp [tot], (by repeat (first | (with_reducible exact Below.refl _ _) | (with_reducible assumption) | (with_reducible refine below_go ?_ (by with_reducible assumption)) | (with_reducible refine below_new ?_ _) | ((with_reducible refine below_put ?_ ?_ _); rotate_left; (dsimp only; omega)) | (with_reducible refine Below.drew ?_) | (with_reducible refine below_dn ?_ _)))⟩
      case round =>
        obtain ⟨k, hk, rfl, rfl, hall, hle, hB⟩ := hrel
        have hsz := jL_size p c k
        have hs1 : (mkS (jL p c k)).size ≤ tot p k + (k - 1) := by omega
        have hs2 : tot p k + (k - 1) ≤ (mkS (jL p c k)).size := by omega
        clear hsz
        by_cases hlt : k < n
        · have a1 : (0 : Int) ≤ k := by omega
          have a2 : (k : Int) < n := by omega
          have q1 : wr.cell? ⟨g, k, none⟩ = some (.string (p k)) := (H1.out.call hB).1 k hlt
          have hz := HT.out k hlt
          have hz1 : (p k).size ≤ 1048576 := by omega
          have hz2 : (p k).size ≤ 9223372036854775807 := by omega
          have hst : ∀ w' : World, Calls Tryd.prog 32 #[.string (p k), .int .u8 (((⟨#[c]⟩ : ByteArray)[0]'(by show 0 < 1; omega)).toNat : Int)] w' fun e w2 => e = .returned (.bool (stB (p k) c)) ∧ w' = w2 := l1Stands_any (p k) c hz2
          clear hz hz2
          cases he : stB (p k) c
          · rw [he] at hst
            have HST := hide hst
            have HE := hide he
            clear he hst
            have HTS : Hid (tot p (k + 1) = tot p k + (p k).size) := rfl
            have HJ := hide (jL_succ p c k)
            have q0 : ∃ S : ByteArray, Hid (S = mkS (jH p c k)) ∧ ((k : Int) ≤ 0 ∧ Hid (mkS (jL p c k) = S) ∨ 0 < (k : Int) ∧ Hid (mkS (jL p c k) ++ ⟨#[c]⟩ = S)) := by
              by_cases hz : k = 0
              · subst hz; exact ⟨_, rfl, Or.inl ⟨by omega, rfl⟩⟩
              · refine ⟨_, rfl, Or.inr ⟨by omega, ?_⟩⟩
                show mkS (jL p c k) ++ mkS [c] = _
                rw [mkS_app]; simp [jH, hz]
            have hbig : 4000 < tot p k + (p k).size + k ∨ tot p k + (p k).size + k ≤ 4000 := by omega
            obtain ⟨S, hS, h | h⟩ := q0
            all_goals
              obtain ⟨a3, hS2⟩ := h
              rcases hbig with hbig | hbig
            all_goals
              go_wp2_with fail
              go_quiet ((go_at_call 32; exact Calls.quiet_of_eq (HST.out _)))
              go_wp2
              first
              | (go_ret2
                 exact ⟨ret_no HR.out (not_long hlt (by rw [HTS.out]; exact hbig)), (by repeat (first | (with_reducible exact Below.refl _ _) | (with_reducible assumption) | (with_reducible refine below_go ?_ (by with_reducible assumption)) | (with_reducible refine below_new ?_ _) | ((with_reducible refine below_put ?_ ?_ _); rotate_left; (dsimp only; omega)) | (with_reducible refine Below.drew ?_) | (with_reducible refine below_dn ?_ _)))⟩)
              | (go_roundw
                 case rel => exact ⟨k + 1, by omega, by go_num, congrArg Value.string (by
                   rw [HJ.out, ← mkS_app, mkS_data, ← hS.out, ← hS2.out]), hide (fun j hj => by
                     rcases (by omega : j < k ∨ j = k) with h | rfl
                     · exact hall.out j h
                     · exact HE.out), by rw [HTS.out]; omega, (by repeat (first | (with_reducible exact Below.refl _ _) | (with_reducible assumption) | (with_reducible refine below_go ?_ (by with_reducible assumption)) | (with_reducible refine below_new ?_ _) | ((with_reducible refine below_put ?_ ?_ _); rotate_left; (dsimp only; omega)) | (with_reducible refine Below.drew ?_) | (with_reducible refine below_dn ?_ _)))⟩
                 case measure => (simp [intOf]; omega))
          · rw [he] at hst
            have HST := hide hst
            have HE := hide he
            clear he hst
            go_wp2_with fail
            go_quiet ((go_at_call 32; exact Calls.quiet_of_eq (HST.out _)))
            go_wp2
            go_ret2
            exact ⟨ret_no HR.out (not_stand hlt HE.out), (by repeat (first | (with_reducible exact Below.refl _ _) | (with_reducible assumption) | (with_reducible refine below_go ?_ (by with_reducible assumption)) | (with_reducible refine below_new ?_ _) | ((with_reducible refine below_put ?_ ?_ _); rotate_left; (dsimp only; omega)) | (with_reducible refine Below.drew ?_) | (with_reducible refine below_dn ?_ _)))⟩
        · obtain rfl : k = n := by omega
          go_wp2
          go_ret2
          exact ⟨ret_yes HR.out hpos ⟨hall.out, by omega⟩, hB⟩
  · have hne : ((sep.size : Int) != 1) = true := by simp; omega
    have HR := hide (ret_no hR (by rintro ⟨c, rfl, _, _⟩; exact h1 rfl))
    clear hR hH h1
    go_enter Tryd.func10, Tryd.ntmps10
    go_wp2
    go_ret2
    exact ⟨HR.out, (by repeat (first | (with_reducible exact Below.refl _ _) | (with_reducible assumption) | (with_reducible refine below_go ?_ (by with_reducible assumption)) | (with_reducible refine below_new ?_ _) | ((with_reducible refine below_put ?_ ?_ _); rotate_left; (dsimp only; omega)) | (with_reducible refine Below.drew ?_) | (with_reducible refine below_dn ?_ _)))⟩

end Go.Proofs.YtpbfdmliegjagaaDoor

namespace Go.Proofs.YtpbfdmliegjagaaDoor
open Go.RowKit

theorem join_any (p : Nat → ByteArray) (n cap g : Nat) (c : UInt8) (hn : n ≤ 1048576) (hcap : n ≤ cap) (ht : tot p n ≤ 1048576) (w : World) (hH : Has w g n (fun o => .string (p o))) :
    Calls Tryd.prog 31 #[.slice (some ⟨g, 0, none⟩) n cap, .string ⟨#[c]⟩] w fun e w' => e = .returned (.string (mkS (jL p c n))) ∧ Below w.heap.size w w' := by
  have h := Tryd.strings_Join g 0 cap ((List.range n).map p) ⟨#[c]⟩ w (by
    intro j x hx
    have hj : j < n := by have := (List.getElem?_eq_some_iff.1 hx).1; simpa using this
    rw [hH.1 (0 + j) (by omega)]
    simp [hj] at hx
    subst hx
    simp) hH.2.2 (by simp; omega) (by simpa using hcap) (by
      have e : (Lib.join (((List.range n).map p).map (·.data.toList)) (⟨#[c]⟩ : ByteArray).data.toList) = jL p c n := by
        unfold jL; rw [List.map_map]; rfl
      rw [e]
      have := jL_size p c n
      rw [mkS_size] at this
      omega)
  have e : (Lib.join (((List.range n).map p).map (·.data.toList)) (⟨#[c]⟩ : ByteArray).data.toList) = jL p c n := by
    unfold jL; rw [List.map_map]; rfl
  rw [e] at h
  simp only [List.length_map, List.length_range] at h
  exact h

set_option maxRecDepth 100000 in
set_option maxHeartbeats 8000000 in
theorem implJoin_any (p : Nat → ByteArray) (n cap g : Nat) (sep : ByteArray) (s : ByteArray) (ok : Bool) (hR : JR p n sep s ok) (hn : n ≤ 1048576) (hcap : n ≤ cap) (ht : tot p n ≤ 1048576) (w : World) (hH : Has w g n (fun o => .string (p o))) :
    Calls Tryd.prog 9 #[.slice (some ⟨g, 0, none⟩) n cap, .string sep] w fun e w' => e = .returned (.tuple #[.string s, .bool ok]) ∧ Below w.heap.size w w' := by
  by_cases h0 : n = 0
  · subst h0
    have HR := hide (ret_no hR (by rintro ⟨_, _, h, _⟩; omega))
    clear hR hH
    go_enter Tryd.func9, Tryd.ntmps9
    go_wp2
    go_ret2
    exact ⟨HR.out, (by repeat (first | (with_reducible exact Below.refl _ _) | (with_reducible assumption) | (with_reducible refine below_go ?_ (by with_reducible assumption)) | (with_reducible refine below_new ?_ _) | ((with_reducible refine below_put ?_ ?_ _); rotate_left; (dsimp only; omega)) | (with_reducible refine Below.drew ?_) | (with_reducible refine below_dn ?_ _)))⟩
  · have hpos : 0 < n := by omega
    have hpi : (0 : Int) < n := by omega
    have hne0 : ((n : Int) == 0) = false := by simpa using h0
    by_cases h1 : sep.size = 1
    · obtain ⟨c, rfl⟩ := one_byte h1
      have HR := hide hR
      have H1 := hide hH
      have HT := hide (fun k (hk : k < n) => tot_one p hk)
      have HTM := hide (fun k (hk : k ≤ n) => tot_mono p hk)
      clear hR hH h0 h1
      go_enter Tryd.func9, Tryd.ntmps9
      go_wp2
      go_loop [6, 22] (fun v i => ∃ k : Nat, k ≤ n ∧ i = .int .i64 k ∧ v = .int .i64 ((n : Int) - 1 + (tot p k : Int)) ∧ Hid (∀ j, j < k → stB (p j) c = false) ∧ (k = 0 ∨ tot p k + (n - 1) ≤ 4000)) (fun _ i => n - (intOf i).toNat)
      case atStart => exact ⟨0, by omega, rfl, by simp [tot], hide (fun j hj => absurd hj (Nat.not_lt_zero _)), Or.inl rfl⟩
      case round =>
        obtain ⟨k, hk, rfl, rfl, hall, hle⟩ := hrel
        have HLE := hide hle
        clear hle
        have htm := HTM.out k hk
        by_cases hlt : k < n
        · have a1 : (0 : Int) ≤ k := by omega
          have a2 : (k : Int) < n := by omega
          have q1 : w.cell? ⟨g, k, none⟩ = some (.string (p k)) := H1.out.1 k hlt
          have hz := HT.out k hlt
          have hz1 : ((p k).size : Int) ≤ 1048576 := by omega
          have hz0 : (0 : Int) ≤ (p k).size := by omega
          have hy1 : (tot p k : Int) ≤ 1048576 := by omega
          have hy0 : (0 : Int) ≤ tot p k := by omega
          have hni : (n : Int) ≤ 1048576 := by omega
          have HTS : Hid (tot p (k + 1) = tot p k + (p k).size) := rfl
          clear hz htm
          by_cases hbig : tot p k + (p k).size + (n - 1) ≤ 4000
          · have e1 : decide ((n : Int) - 1 + (tot p k : Int) + ((p k).size : Int) > 4000) = false := decide_eq_false (by omega)
            have e2 : (n : Int) - 1 + (tot p k : Int) + ((p k).size : Int) ≤ 4000 := by omega
            cases he : stB (p k) c
            · have HE := hide he
              clear he
              go_wp2_with ((go_at_call 30); (with_reducible refine (Calls.bool_eq (contains_st _ _ _) HE.out).mono ?_); rintro e w' ⟨rfl, rfl⟩)
              go_round
              case rel => exact ⟨k + 1, by omega, by go_num, by rw [HTS.out]; go_num, hide (fun j hj => by
                rcases (by omega : j < k ∨ j = k) with h | rfl
                · exact hall.out j h
                · exact HE.out), Or.inr (by rw [HTS.out]; exact hbig)⟩
              case measure => simp [intOf]; omega
            · have HE := hide he
              clear he
              go_wp2_with ((go_at_call 30); (with_reducible refine (Calls.bool_eq (contains_st _ _ _) HE.out).mono ?_); rintro e w' ⟨rfl, rfl⟩)
              go_ret2
              exact ⟨ret_no HR.out (not_stand hlt HE.out), (by repeat (first | (with_reducible exact Below.refl _ _) | (with_reducible assumption) | (with_reducible refine below_go ?_ (by with_reducible assumption)) | (with_reducible refine below_new ?_ _) | ((with_reducible refine below_put ?_ ?_ _); rotate_left; (dsimp only; omega)) | (with_reducible refine Below.drew ?_) | (with_reducible refine below_dn ?_ _)))⟩
          · have e1 : decide ((n : Int) - 1 + (tot p k : Int) + ((p k).size : Int) > 4000) = true := decide_eq_true (by omega)
            have e2 : 4000 < (n : Int) - 1 + (tot p k : Int) + ((p k).size : Int) := by omega
            have hno : Hid (¬ ∃ c', (⟨#[c]⟩ : ByteArray) = ⟨#[c']⟩ ∧ 0 < n ∧ Good p n c') := by
              rintro ⟨c', _, _, _, hG⟩
              have h2 := HTM.out (k + 1) (by omega)
              rw [HTS.out] at h2
              omega
            go_wp2_with fail
            go_ret2
            exact ⟨ret_no HR.out hno.out, (by repeat (first | (with_reducible exact Below.refl _ _) | (with_reducible assumption) | (with_reducible refine below_go ?_ (by with_reducible assumption)) | (with_reducible refine below_new ?_ _) | ((with_reducible refine below_put ?_ ?_ _); rotate_left; (dsimp only; omega)) | (with_reducible refine Below.drew ?_) | (with_reducible refine below_dn ?_ _)))⟩
        · obtain rfl : k = n := by omega
          have hG : tot p k + (k - 1) ≤ 4000 := by rcases HLE.out with h | h <;> omega
          clear htm
          go_wp2_with ((go_at_call 31); (with_reducible refine (join_any p k cap g c hn hcap ht _ H1.out).mono ?_); rintro e w2 ⟨rfl, hb2⟩)
          go_wp2
          go_ret2
          exact ⟨ret_yes HR.out hpos ⟨hall.out, hG⟩, hb2⟩
    · have hne : ((sep.size : Int) != 1) = true := by simp; omega
      have HR := hide (ret_no hR (by rintro ⟨c, rfl, _, _⟩; exact h1 rfl))
      clear hR hH h1
      go_enter Tryd.func9, Tryd.ntmps9
      go_wp2
      go_ret2
      exact ⟨HR.out, (by repeat (first | (with_reducible exact Below.refl _ _) | (with_reducible assumption) | (with_reducible refine below_go ?_ (by with_reducible assumption)) | (with_reducible refine below_new ?_ _) | ((with_reducible refine below_put ?_ ?_ _); rotate_left; (dsimp only; omega)) | (with_reducible refine Below.drew ?_) | (with_reducible refine below_dn ?_ _)))⟩

end Go.Proofs.YtpbfdmliegjagaaDoor

namespace Go.Proofs.YtpbfdmliegjagaaDoor
open Go.RowKit

theorem wrap_tables {H : Type} {enc : TypeId × Value → H} {a : Assume} {C : Checked} {os : Os} {f : FuncId} {fn : Func} {s : ChangeSpec} {conds : List PathCond} {apart fresh handsOn again : Bool} {X : World → Array Value → Prop}
    (hX : ∀ (w w' : World) (args : Array Value), w.heap = w'.heap → X w args → X w' args)
    (own : ownKnob C.prog.godebug = none) (started : os.Started) (noInit : C.prog.inits.idxOf? f = none) (hfn : C.prog.funcs[f]? = some fn)
    (witness : ∃ (w : World) (tape : Tape) (i : Input), w.os = os ∧ (w.forCall tape i).Shaped C.prog ∧ i.vars = [] ∧ Input.okWide C.prog (w.forCall tape i) .any w.heap.size f i ∧
      ((s.pre enc C.prog fn conds apart (w.forCall tape i).memory i.args ∧ X (w.forCall tape i).memory i.args) ∧ sizedMet enc C.prog fn (OpenSpec.ofChange s) apart (w.forCall tape i).memory i.args) ∧ a.holds C.prog (lone (Frame.enter C.prog f i.args .normal) [] (w.forCall tape i)))
    (contract : ∀ (W : World) (base : Nat) (args : Array Value) (ds gs : List (DataW H)) (before : List MemPlace),
      (∀ (j : Nat) t v, fn.params[j]? = some t → args[j]? = some v → Value.okWide C.prog W .any base t v) →
      DataW.Whole enc C.prog fn.params.toList s.vars apart W args.toList ds gs before →
      conds.all (PathCond.test C.prog ⟨fn.params.toList, ds, s.plain.varTypes C.prog, gs⟩) = true →
      (DataW.weightsEach C.prog (fn.params.toList ++ s.plain.varTypes C.prog) (ds ++ gs)).all (· ≤ reachBytes) = true → X W args → W.ShapedOpen C.prog →
      a.holds C.prog (lone (Frame.enter C.prog f args .normal) [] W) →
      Calls C.prog f args W fun e W' => ∃ v, e = .returned v ∧ s.post enc C.prog fn apart fresh handsOn again W args v W') :
    ReturnsInHanded a C os f .any (fun w args => (s.pre enc C.prog fn conds apart w args ∧ X w args) ∧ sizedMet enc C.prog fn (OpenSpec.ofChange s) apart w args) (s.post enc C.prog fn apart fresh handsOn again) :=
  returnsInHanded_of_calls own started noInit witness fun w tape i _ hsh _ hok hpre hholds => by
    obtain ⟨_, _, _, fn', hfn', _, _, _, _, hval⟩ := hok
    obtain rfl : fn' = fn := Option.some.inj (hfn'.symm.trans hfn)
    obtain ⟨⟨⟨ds, gs, before, hw, hc⟩, hx⟩, hz⟩ := hpre
    have hw' := DataW.Whole.of_heap (w' := w.forCall tape i) (by rfl) hw
    refine (contract (w.forCall tape i) w.heap.size i.args ds gs before hval hw' hc (hz.weights hw) (hX _ _ _ (by rfl) hx) hsh hholds).mono ?_
    rintro e W' ⟨v, rfl, hp⟩
    exact ChangeSpec.post_blind hp

theorem maxI_of {W : World} (h : W.ShapedOpen Tryd.prog) : MaxI W :=
  cell_of_shapedOpen_int (t := 3) (zero := #[.int .i64 0]) h (of_decide_eq_true (by kernel_rfl)) (by kernel_rfl) rfl (by kernel_rfl) (by kernel_rfl) Tryd.underlying3

end Go.Proofs.YtpbfdmliegjagaaDoor
