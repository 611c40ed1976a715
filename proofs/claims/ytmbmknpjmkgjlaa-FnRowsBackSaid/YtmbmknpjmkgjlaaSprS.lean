/-
  Contract: the rows that have some tiles in order, with zeros between them (the reference's l4Spread).
-/
import Derived.Test.YtmbmknpjmkgjlaaSprR
namespace Go.Proofs.Ytmbmknpjmkgjlaa
open Go.RowKit

theorem spL_succ (ts : List Int) (n : Nat) : spL ts (n + 1) = if nB n 4 = ts.length then spL ts n ++ [spB n ts] else spL ts n := by
  unfold spL
  rw [List.range_succ, List.filter_append, List.map_append]
  by_cases h : nB n 4 = ts.length <;> simp [h]
theorem spL_len (ts : List Int) (n : Nat) : (spL ts n).length ≤ n := by
  have := List.length_filter_le (fun c => nB c 4 == ts.length) (List.range n)
  simpa [spL] using this
theorem nB_le (c : Nat) : ∀ k, nB c k ≤ k
  | 0 => Nat.le_refl _
  | k + 1 => by
    have := nB_le c k
    have h2 := Nat.mod_lt (c / 2 ^ k) (show 0 < 2 by decide)
    simp only [nB]; omega
/-- The row while it is filled. -/
def spC (code : Nat) (ts : List Int) (k : Nat) : Nat → Value := fun o => .int .i64 (if o < k then spB code ts o else 0)
theorem spC_zero (code : Nat) (ts : List Int) (k : Nat) (h : code / 2 ^ k % 2 = 0) (o : Nat) : spC code ts k o = spC code ts (k + 1) o := by
  unfold spC
  by_cases h1 : o < k
  · rw [if_pos h1, if_pos (by omega)]
  · rw [if_neg h1]
    by_cases h2 : o = k
    · subst h2
      rw [if_pos (by omega), spB, if_neg (by omega)]
    · rw [if_neg (by omega)]
theorem spC_set (code : Nat) (ts : List Int) (k : Nat) (h : code / 2 ^ k % 2 = 1) (o : Nat) : (if o = k then Value.int .i64 (ts.getD (nB code k) 0) else spC code ts k o) = spC code ts (k + 1) o := by
  unfold spC
  by_cases h2 : o = k
  · subst h2
    rw [if_pos rfl, if_pos (by omega), spB, if_pos h]
  · rw [if_neg h2]
    by_cases h1 : o < k
    · rw [if_pos h1, if_pos (by omega)]
    · rw [if_neg h1, if_neg (by omega)]
theorem spC_none (code : Nat) (ts : List Int) (k : Nat) (h : code / 2 ^ k % 2 = 1) (hn : ¬ nB code k < ts.length) (o : Nat) : spC code ts k o = spC code ts (k + 1) o := by
  rw [← spC_set code ts k h o]
  by_cases h2 : o = k
  · subst h2
    rw [if_pos rfl]
    unfold spC
    rw [if_neg (by omega), List.getD_eq_getElem?_getD, List.getElem?_eq_none (by omega)]
    rfl
  · rw [if_neg h2]

theorem own_only' {w w2 : World} {base e size n B : Nat} {v : Value} {xs : List Value} (h : w.ownsRow base e size v n xs) (hb : Only B w w2) (hB : v.ownBlock ≠ some B) : w2.ownsRow base e size v n xs := by
  refine ⟨h.1, ?_⟩
  rcases h.2 with h2 | ⟨g, cap, cur, e1, hg, hget, r⟩
  · exact .inl h2
  · refine .inr ⟨g, cap, cur, e1, hg, ?_, r⟩
    have hne : g ≠ B := fun he => hB (by rw [e1, ← he]; rfl)
    have := hb.block g hne
    rw [this]; exact hget

set_option maxHeartbeats 8000000 in
set_option maxRecDepth 100000 in
theorem l4Spread_at (ts : List Int) (h4 : ts.length ≤ 4) (w : World) (g o N cap : Nat) (c : Nat → Int) (hle : o + ts.length ≤ N) (hH : Has w g N (fun i => .int .i64 (c i))) (hc : ∀ i, i < ts.length → c (o + i) = ts.getD i 0) :
    Calls Try.prog 69 #[.slice (some ⟨g, o, none⟩) ts.length cap] w fun e w' => ∃ A' c', e = .returned (.slice A' (spL ts 16).length c') ∧ (spL ts 16).length ≤ c' ∧ Sl w' w.heap.size A' ((spL ts 16).length * 4) (rsC (spL ts 16)) ∧ Below w.heap.size w w' := by
  obtain ⟨i1s, hj0, hj1, hj2, hj3⟩ := info_parts info_Rw3
  have HH := hide hH
  have HC := hide hc
  clear hH hc
  obtain ⟨n, hn⟩ : ∃ n, n = ts.length := ⟨_, rfl⟩
  have HN := hide hn
  rw [← hn] at h4 hle ⊢
  clear hn
  go_enter Try.func69, Try.ntmps69
  go_upto_region 2 with (fail)
  generalize hW : World.alloc w _ = w1
  have hB : Below w.heap.size w w1 := by (rw [← hW]; exact (by repeat (first | (with_reducible exact Below.refl _ _) | (with_reducible assumption) | (with_reducible refine below_go ?_ (by with_reducible assumption)) | (with_reducible refine below_new ?_ _) | ((with_reducible refine below_put ?_ ?_ _); rotate_left; (dsimp only; omega)) | (with_reducible refine Below.drew ?_) | (with_reducible refine below_dn ?_ _))))
  have own : w1.ownsRow w.heap.size 22 4 (.slice (some ⟨w.heap.size, 0, none⟩) 0 0) (spL ts 0).length (rsV (spL ts 0)) := by (rw [← hW]; exact World.ownsRow_made w #[] 0 (Nat.le_refl _) (Nat.zero_le _) rfl)
  clear hW
  go_wp2_with fail
  go_loopw [3, 4] (fun v i wr => ∃ (k : Nat) (u : Value), u = v ∧ k ≤ 16 ∧ i = .int .i64 k ∧ wr.ownsRow w.heap.size 22 4 u (spL ts k).length (rsV (spL ts k)) ∧ Below w.heap.size w wr) (fun _ i _ => 16 - (intOf i).toNat)
  case atStart => exact ⟨0, _, rfl, by omega, rfl, own, hB⟩
  case round =>
    clear hB own
    rename_i v4 _
    obtain ⟨k, v4, rfl, hk, rfl, own, hB⟩ := hrel
    by_cases h16 : k = 16
    · subst h16
      obtain ⟨A1, c1, rfl, hcap, hS⟩ := rs_sl own
      clear own
      go_wp2
      go_ret
      exact ⟨_, _, rfl, hcap, hS, hB⟩
    · have hlt : k < 16 := by omega
      have hlti : (k : Int) < 16 := by omega
      have hdr : decide ((k : Int) < 16) = true := decide_eq_true hlti
      have HSU := hide (spL_succ ts k)
      have HSL := hide (spL_len ts k)
      go_upto_region 4 with (fail)
      generalize hW : World.alloc wr _ = w3
      have hB' : Below w.heap.size w w3 := by (rw [← hW]; exact (by repeat (first | (with_reducible exact Below.refl _ _) | (with_reducible assumption) | (with_reducible refine below_go ?_ (by with_reducible assumption)) | (with_reducible refine below_new ?_ _) | ((with_reducible refine below_put ?_ ?_ _); rotate_left; (dsimp only; omega)) | (with_reducible refine Below.drew ?_) | (with_reducible refine below_dn ?_ _))))
      have own' : w3.ownsRow w.heap.size 22 4 v4 (spL ts k).length (rsV (spL ts k)) := own_at hW own
      have j5 : Has w3 wr.heap.size 4 (spC k ts 0) := by
        rw [← hW]
        exact (Has.new' (n := 4) rfl).congr fun o ho => by rcases p4 ho with rfl | rfl | rfl | rfl <;> rfl
      have hE0 : w.heap.size ≤ wr.heap.size := hB.size
      have hEo : v4.ownBlock ≠ some wr.heap.size := fun h => Nat.lt_irrefl _ (own.lt _ h).2
      clear hW own hB
      generalize wr.heap.size = E at *
      clear wr
      go_loopw [6, 7] (fun v6 v7 wr => ∃ (j m : Nat), j ≤ 4 ∧ m = nB k j ∧ v7 = .int .i64 j ∧ v6 = .int .i64 m ∧ wr.ownsRow w.heap.size 22 4 v4 (spL ts k).length (rsV (spL ts k)) ∧ Below w.heap.size w wr ∧ Has wr E 4 (spC k ts j)) (fun _ v7 _ => 4 - (intOf v7).toNat)
      case atStart => exact ⟨0, 0, by omega, rfl, rfl, rfl, own', hB', j5⟩
      case round =>
        clear hB' own' j5
        obtain ⟨j, m, hj, hm, rfl, rfl, own, hB, j5⟩ := hrel
        have hmj : m ≤ j := hm ▸ nB_le k j
        have HM := hide hm
        clear hm
        by_cases hj4 : j = 4
        · subst hj4
          have j5' := j5.congr (d := fun o => .int .i64 (spB k ts o)) (fun o ho => by show Value.int .i64 (if o < 4 then spB k ts o else 0) = _; rw [if_pos ho])
          clear j5
          have hB2 := hB
          by_cases hmn : m = n
          · have HS2 := hide (show spL ts (k + 1) = spL ts k ++ [spB k ts] by rw [HSU.out, if_pos (by rw [← HM.out, hmn, HN.out])])
            subst hmn
            have hl16 : (spL ts k).length ≤ 16 := Nat.le_trans HSL.out hk
            go_wp2_with (first | (refine load_A4 rfl _ rfl _ _ rfl j5' (by omega) ?_) | (at_builtin; refine wpList_append_own _ rfl _ _ 30 rfl w.heap.size 22 i1s (.agg #[.int .i64 0, .int .i64 0, .int .i64 0, .int .i64 0]) 4 32 Try.underlying30 hj0 hj1 hj2 hj3 rfl (by decide) _ (spL ts k).length (rsV (spL ts k)) rfl (own.alloc _) ⟨wr.heap.size, 0, none⟩ 1 1 (c4 (spB k ts)) rfl rfl rw_cells (c4_ints _) (by unfold maxLen; omega) (by omega) (by have := hB.size; simp; omega) ?_))
            intro v' w3 hown' hgrow _
            have hB1 : Below w.heap.size w w3 := (below_new hB _).grown hgrow (by have := hB.size; simp; omega) (fun q hq => (own.lt q hq).1)
            have own2 : w3.ownsRow w.heap.size 22 4 v' (spL ts (k + 1)).length (rsV (spL ts (k + 1))) := by
              rw [HS2.out, rsV_snoc, List.length_append]; exact hown'
            clear hown' hB hgrow own j5' hB2
            go_wp2
            go_roundw
            case rel => exact ⟨k + 1, _, rfl, by omega, by go_num, own2, hB1⟩
            case measure => simp [intOf]; omega
          · have HS2 := hide (show spL ts (k + 1) = spL ts k by rw [HSU.out, if_neg (by rw [← HM.out]; exact fun h => hmn (h.trans HN.out.symm))])
            have hmni : ((m : Int) == (n : Int)) = false := beq_eq_false_iff_ne.2 (by omega)
            go_wp2
            go_roundw
            case rel => exact ⟨k + 1, _, rfl, by omega, by go_num, by rw [HS2.out]; exact own, hB⟩
            case measure => simp [intOf]; omega
        · have hjl : j < 4 := by omega
          have a0 : (0 : Int) ≤ j := by omega
          have a1 : (j : Int) < 4 := by omega
          have a2 : (0 : Int) ≤ m := by omega
          have han := bit_any k j hlt hjl
          obtain ⟨x, hx⟩ : ∃ x, x = k / 2 ^ j := ⟨_, rfl⟩
          rw [← hx] at han
          have HX := hide hx
          clear hx
          rcases Nat.mod_two_eq_zero_or_one x with hb | hb
          · rw [hb] at han
            have HB := hide hb
            clear hb
            go_wp2
            go_roundw
            case rel => exact ⟨j + 1, m, by omega, by rw [nB, ← HX.out, HB.out, HM.out]; rfl, by go_num, rfl, own, hB, j5.congr fun o _ => spC_zero k ts j (by rw [← HX.out]; exact HB.out) o⟩
            case measure => simp [intOf]; omega
          · rw [hb] at han
            have HB := hide hb
            clear hb
            have hm1 : Hid (nB k (j + 1) = m + 1) := hide (by rw [nB, ← HX.out, HB.out, HM.out])
            by_cases hmn : m < n
            · have a3 : (m : Int) < n := by omega
              have hHr := HH.out.call hB
              obtain ⟨V, hv⟩ : ∃ V, V = ts.getD m 0 := ⟨_, rfl⟩
              have q1 : wr.cell? ⟨g, o + m, none⟩ = some (.int .i64 V) := by
                rw [hHr.1 _ (by omega)]
                show some (Value.int .i64 (c (o + m))) = _
                rw [HC.out m (by rw [← HN.out]; exact hmn), hv]
              clear hHr
              have HV := hide hv.symm
              clear hv
              go_wp2_with (refine store_int rfl _ _ rfl _ _ _ rfl rfl j5 (by omega) ?_; intro w3 ho3 hn3; have hB3 := below_only hB ho3 hE0; have own3 := own_only' own ho3 hEo)
              go_roundw
              case rel =>
                exact ⟨j + 1, m + 1, by omega, hm1.out.symm, by go_num, by go_num, own3, hB3, hn3.congr fun o _ => by
                  rw [← spC_set k ts j (by rw [← HX.out]; exact HB.out) o, ← HM.out, HV.out]⟩
              case measure => simp [intOf]; omega
            · have a3 : ¬ (m : Int) < n := by omega
              go_wp2
              go_roundw
              case rel => exact ⟨j + 1, m + 1, by omega, hm1.out.symm, by go_num, by go_num, own, hB, j5.congr fun o _ => spC_none k ts j (by rw [← HX.out]; exact HB.out) (by rw [← HM.out, ← HN.out]; exact hmn) o⟩
              case measure => simp [intOf]; omega

set_option maxHeartbeats 8000000 in
set_option maxRecDepth 100000 in
theorem l4Spread_nil (ts : List Int) (h4 : ts.length = 0) (w : World) (A : Option Addr) (cap : Nat) :
    Calls Try.prog 69 #[.slice A ts.length cap] w fun e w' => ∃ A' c', e = .returned (.slice A' (spL ts 16).length c') ∧ (spL ts 16).length ≤ c' ∧ Sl w' w.heap.size A' ((spL ts 16).length * 4) (rsC (spL ts 16)) ∧ Below w.heap.size w w' := by
  obtain ⟨i1s, hj0, hj1, hj2, hj3⟩ := info_parts info_Rw3
  obtain ⟨n, hn⟩ : ∃ n, n = ts.length := ⟨_, rfl⟩
  have HN := hide hn
  rw [← hn] at h4 ⊢
  clear hn
  have H4 := hide h4
  clear h4
  go_enter Try.func69, Try.ntmps69
  go_upto_region 2 with (fail)
  generalize hW : World.alloc w _ = w1
  have hB : Below w.heap.size w w1 := by (rw [← hW]; exact (by repeat (first | (with_reducible exact Below.refl _ _) | (with_reducible assumption) | (with_reducible refine below_go ?_ (by with_reducible assumption)) | (with_reducible refine below_new ?_ _) | ((with_reducible refine below_put ?_ ?_ _); rotate_left; (dsimp only; omega)) | (with_reducible refine Below.drew ?_) | (with_reducible refine below_dn ?_ _))))
  have own : w1.ownsRow w.heap.size 22 4 (.slice (some ⟨w.heap.size, 0, none⟩) 0 0) (spL ts 0).length (rsV (spL ts 0)) := by (rw [← hW]; exact World.ownsRow_made w #[] 0 (Nat.le_refl _) (Nat.zero_le _) rfl)
  clear hW
  go_wp2_with fail
  go_loopw [3, 4] (fun v i wr => ∃ (k : Nat) (u : Value), u = v ∧ k ≤ 16 ∧ i = .int .i64 k ∧ wr.ownsRow w.heap.size 22 4 u (spL ts k).length (rsV (spL ts k)) ∧ Below w.heap.size w wr) (fun _ i _ => 16 - (intOf i).toNat)
  case atStart => exact ⟨0, _, rfl, by omega, rfl, own, hB⟩
  case round =>
    clear hB own
    rename_i v4 _
    obtain ⟨k, v4, rfl, hk, rfl, own, hB⟩ := hrel
    by_cases h16 : k = 16
    · subst h16
      obtain ⟨A1, c1, rfl, hcap, hS⟩ := rs_sl own
      clear own
      go_wp2
      go_ret
      exact ⟨_, _, rfl, hcap, hS, hB⟩
    · have hlt : k < 16 := by omega
      have hlti : (k : Int) < 16 := by omega
      have hdr : decide ((k : Int) < 16) = true := decide_eq_true hlti
      have HSU := hide (spL_succ ts k)
      have HSL := hide (spL_len ts k)
      go_upto_region 4 with (fail)
      generalize hW : World.alloc wr _ = w3
      have hB' : Below w.heap.size w w3 := by (rw [← hW]; exact (by repeat (first | (with_reducible exact Below.refl _ _) | (with_reducible assumption) | (with_reducible refine below_go ?_ (by with_reducible assumption)) | (with_reducible refine below_new ?_ _) | ((with_reducible refine below_put ?_ ?_ _); rotate_left; (dsimp only; omega)) | (with_reducible refine Below.drew ?_) | (with_reducible refine below_dn ?_ _))))
      have own' : w3.ownsRow w.heap.size 22 4 v4 (spL ts k).length (rsV (spL ts k)) := own_at hW own
      have j5 : Has w3 wr.heap.size 4 (spC k ts 0) := by
        rw [← hW]
        exact (Has.new' (n := 4) rfl).congr fun o ho => by rcases p4 ho with rfl | rfl | rfl | rfl <;> rfl
      have hE0 : w.heap.size ≤ wr.heap.size := hB.size
      have hEo : v4.ownBlock ≠ some wr.heap.size := fun h => Nat.lt_irrefl _ (own.lt _ h).2
      clear hW own hB
      generalize wr.heap.size = E at *
      clear wr
      go_loopw [6, 7] (fun v6 v7 wr => ∃ (j m : Nat), j ≤ 4 ∧ m = nB k j ∧ v7 = .int .i64 j ∧ v6 = .int .i64 m ∧ wr.ownsRow w.heap.size 22 4 v4 (spL ts k).length (rsV (spL ts k)) ∧ Below w.heap.size w wr ∧ Has wr E 4 (spC k ts j)) (fun _ v7 _ => 4 - (intOf v7).toNat)
      case atStart => exact ⟨0, 0, by omega, rfl, rfl, rfl, own', hB', j5⟩
      case round =>
        clear hB' own' j5
        obtain ⟨j, m, hj, hm, rfl, rfl, own, hB, j5⟩ := hrel
        have hmj : m ≤ j := hm ▸ nB_le k j
        have HM := hide hm
        clear hm
        by_cases hj4 : j = 4
        · subst hj4
          have j5' := j5.congr (d := fun o => .int .i64 (spB k ts o)) (fun o ho => by show Value.int .i64 (if o < 4 then spB k ts o else 0) = _; rw [if_pos ho])
          clear j5
          have hB2 := hB
          by_cases hmn : m = n
          · have HS2 := hide (show spL ts (k + 1) = spL ts k ++ [spB k ts] by rw [HSU.out, if_pos (by rw [← HM.out, hmn, HN.out])])
            subst hmn
            have hl16 : (spL ts k).length ≤ 16 := Nat.le_trans HSL.out hk
            go_wp2_with (first | (refine load_A4 rfl _ rfl _ _ rfl j5' (by omega) ?_) | (at_builtin; refine wpList_append_own _ rfl _ _ 30 rfl w.heap.size 22 i1s (.agg #[.int .i64 0, .int .i64 0, .int .i64 0, .int .i64 0]) 4 32 Try.underlying30 hj0 hj1 hj2 hj3 rfl (by decide) _ (spL ts k).length (rsV (spL ts k)) rfl (own.alloc _) ⟨wr.heap.size, 0, none⟩ 1 1 (c4 (spB k ts)) rfl rfl rw_cells (c4_ints _) (by unfold maxLen; omega) (by omega) (by have := hB.size; simp; omega) ?_))
            intro v' w3 hown' hgrow _
            have hB1 : Below w.heap.size w w3 := (below_new hB _).grown hgrow (by have := hB.size; simp; omega) (fun q hq => (own.lt q hq).1)
            have own2 : w3.ownsRow w.heap.size 22 4 v' (spL ts (k + 1)).length (rsV (spL ts (k + 1))) := by
              rw [HS2.out, rsV_snoc, List.length_append]; exact hown'
            clear hown' hB hgrow own j5' hB2
            go_wp2
            go_roundw
            case rel => exact ⟨k + 1, _, rfl, by omega, by go_num, own2, hB1⟩
            case measure => simp [intOf]; omega
          · have HS2 := hide (show spL ts (k + 1) = spL ts k by rw [HSU.out, if_neg (by rw [← HM.out]; exact fun h => hmn (h.trans HN.out.symm))])
            have hmni : ((m : Int) == (n : Int)) = false := beq_eq_false_iff_ne.2 (by omega)
            go_wp2
            go_roundw
            case rel => exact ⟨k + 1, _, rfl, by omega, by go_num, by rw [HS2.out]; exact own, hB⟩
            case measure => simp [intOf]; omega
        · have hjl : j < 4 := by omega
          have a0 : (0 : Int) ≤ j := by omega
          have a1 : (j : Int) < 4 := by omega
          have a2 : (0 : Int) ≤ m := by omega
          have han := bit_any k j hlt hjl
          obtain ⟨x, hx⟩ : ∃ x, x = k / 2 ^ j := ⟨_, rfl⟩
          rw [← hx] at han
          have HX := hide hx
          clear hx
          rcases Nat.mod_two_eq_zero_or_one x with hb | hb
          · rw [hb] at han
            have HB := hide hb
            clear hb
            go_wp2
            go_roundw
            case rel => exact ⟨j + 1, m, by omega, by rw [nB, ← HX.out, HB.out, HM.out]; rfl, by go_num, rfl, own, hB, j5.congr fun o _ => spC_zero k ts j (by rw [← HX.out]; exact HB.out) o⟩
            case measure => simp [intOf]; omega
          · rw [hb] at han
            have HB := hide hb
            clear hb
            have hm1 : Hid (nB k (j + 1) = m + 1) := hide (by rw [nB, ← HX.out, HB.out, HM.out])
            by_cases hmn : m < n
            · exact absurd hmn (by rw [H4.out]; omega)
            · have a3 : ¬ (m : Int) < n := by omega
              go_wp2
              go_roundw
              case rel => exact ⟨j + 1, m + 1, by omega, hm1.out.symm, by go_num, by go_num, own, hB, j5.congr fun o _ => spC_none k ts j (by rw [← HX.out]; exact HB.out) (by rw [← HM.out, ← HN.out]; exact hmn) o⟩
              case measure => simp [intOf]; omega

theorem l4Spread_any (ts : List Int) (h4 : ts.length ≤ 4) (w : World) (q : Option Nat) (A : Option Addr) (cap : Nat) (hA : NumsAt w q A ts) :
    Calls Try.prog 69 #[.slice A ts.length cap] w fun e w' => ∃ A' c', e = .returned (.slice A' (spL ts 16).length c') ∧ (spL ts 16).length ≤ c' ∧ Sl w' w.heap.size A' ((spL ts 16).length * 4) (rsC (spL ts 16)) ∧ Below w.heap.size w w' := by
  rcases Nat.eq_zero_or_pos ts.length with h0 | h0
  · exact l4Spread_nil ts h0 w A cap
  · obtain ⟨g, o, N, c, rfl, -, hle, hH, hc⟩ := hA h0
    exact l4Spread_at ts h4 w g o N cap c hle hH hc

end Go.Proofs.Ytmbmknpjmkgjlaa
