/-
  Contract: JoinStrings, the program's.
-/
import Derived.Test.YtbgfdeicjaencaaJsSp
import Derived.Lib.IndexAny
namespace Go.Proofs.Ytbgfdeicjaencaa
open Go.RowKit

theorem contains_st (s : ByteArray) (c : UInt8) (w : World) : Calls Try.prog 10 #[.string s, .string ⟨#[c]⟩] w fun e w' => e = .returned (.bool (stB s c)) ∧ w = w' :=
  (Try.strings_Contains_one s c w).mono fun e w' ⟨he, hw⟩ => ⟨by rw [he, stB, Lib.contains_iff_indexByte], hw.symm⟩
theorem join_any (p : Nat → ByteArray) (n cap g : Nat) (c : UInt8) (hn : n ≤ 1048576) (hcap : n ≤ cap) (ht : tot p n ≤ 1048576) (w : World) (hH : Has w g n (fun o => .string (p o))) :
    Calls Try.prog 11 #[.slice (some ⟨g, 0, none⟩) n cap, .string ⟨#[c]⟩] w fun e w' => e = .returned (.string (mkS (jL p c n))) ∧ Below w.heap.size w w' := by
  have h := Try.strings_Join g 0 cap ((List.range n).map p) ⟨#[c]⟩ w (by
    intro j x hx
    have hj : j < n := by have := (List.getElem?_eq_some_iff.1 hx).1; simpa using this
    rw [hH.1 (0 + j) (by omega)]
    simp [hj] at hx
    subst hx
    simp) hH.2.2 (by simp; omega) (by simpa using hcap) (by
      have e : (Lib.join (((List.range n).map p).map (·.data.toList)) (⟨#[c]⟩ : ByteArray).data.toList) = jL p c n := by
        unfold jL; rw [List.map_map]; rfl
      rw [e]
      have := jL_size p c n
      rw [mkS_size] at this
      omega)
  have e : (Lib.join (((List.range n).map p).map (·.data.toList)) (⟨#[c]⟩ : ByteArray).data.toList) = jL p c n := by
    unfold jL; rw [List.map_map]; rfl
  rw [e] at h
  simp only [List.length_map, List.length_range] at h
  exact h

set_option maxRecDepth 100000 in
set_option maxHeartbeats 8000000 in
theorem implJoin_any (p : Nat → ByteArray) (n cap g : Nat) (sep : ByteArray) (s : ByteArray) (ok : Bool) (hR : JR p n sep s ok) (hn : n ≤ 1048576) (hcap : n ≤ cap) (ht : tot p n ≤ 1048576) (w : World) (hH : Has w g n (fun o => .string (p o))) :
    Calls Try.prog 7 #[.slice (some ⟨g, 0, none⟩) n cap, .string sep] w fun e w' => e = .returned (.tuple #[.string s, .bool ok]) ∧ Below w.heap.size w w' := by
  by_cases h0 : n = 0
  · subst h0
    have HR := hide (ret_no hR (by rintro ⟨_, _, h, _⟩; omega))
    clear hR hH
    go_enter Try.func7, Try.ntmps7
    go_wp2
    go_ret2
    exact ⟨HR.out, (by repeat (first | (with_reducible exact Below.refl _ _) | (with_reducible assumption) | (with_reducible refine below_go ?_ (by with_reducible assumption)) | (with_reducible refine below_new ?_ _) | ((with_reducible refine below_put ?_ ?_ _); rotate_left; (dsimp only; omega)) | (with_reducible refine Below.drew ?_) | (with_reducible refine below_dn ?_ _)))⟩
  · have hpos : 0 < n := by omega
    have hpi : (0 : Int) < n := by omega
    have hne0 : ((n : Int) == 0) = false := by simpa using h0
    by_cases h1 : sep.size = 1
    · obtain ⟨c, rfl⟩ := one_byte h1
      have HR := hide hR
      have H1 := hide hH
      have HT := hide (fun k (hk : k < n) => tot_one p hk)
      have HTM := hide (fun k (hk : k ≤ n) => tot_mono p hk)
      clear hR hH h0 h1
      go_enter Try.func7, Try.ntmps7
      go_wp2
      go_loop [6, 22] (fun v i => ∃ k : Nat, k ≤ n ∧ i = .int .i64 k ∧ v = .int .i64 ((n : Int) - 1 + (tot p k : Int)) ∧ Hid (∀ j, j < k → stB (p j) c = false) ∧ (k = 0 ∨ tot p k + (n - 1) ≤ 4000)) (fun _ i => n - (intOf i).toNat)
      case atStart => exact ⟨0, by omega, rfl, by simp [tot], hide (fun j hj => absurd hj (Nat.not_lt_zero _)), Or.inl rfl⟩
      case round =>
        obtain ⟨k, hk, rfl, rfl, hall, hle⟩ := hrel
        have HLE := hide hle
        clear hle
        have htm := HTM.out k hk
        by_cases hlt : k < n
        · have a1 : (0 : Int) ≤ k := by omega
          have a2 : (k : Int) < n := by omega
          have q1 : w.cell? ⟨g, k, none⟩ = some (.string (p k)) := H1.out.1 k hlt
          have hz := HT.out k hlt
          have hz1 : ((p k).size : Int) ≤ 1048576 := by omega
          have hz0 : (0 : Int) ≤ (p k).size := by omega
          have hy1 : (tot p k : Int) ≤ 1048576 := by omega
          have hy0 : (0 : Int) ≤ tot p k := by omega
          have hni : (n : Int) ≤ 1048576 := by omega
          have HTS : Hid (tot p (k + 1) = tot p k + (p k).size) := rfl
          clear hz htm
          by_cases hbig : tot p k + (p k).size + (n - 1) ≤ 4000
          · have e1 : decide ((n : Int) - 1 + (tot p k : Int) + ((p k).size : Int) > 4000) = false := decide_eq_false (by omega)
            have e2 : (n : Int) - 1 + (tot p k : Int) + ((p k).size : Int) ≤ 4000 := by omega
            cases he : stB (p k) c
            · have HE := hide he
              clear he
              go_wp2_with ((go_at_call 10); (with_reducible refine (Calls.bool_eq (contains_st _ _ _) HE.out).mono ?_); rintro e w' ⟨rfl, rfl⟩)
              go_round
              case rel => exact ⟨k + 1, by omega, by go_num, by rw [HTS.out]; go_num, hide (fun j hj => by
                rcases (by omega : j < k ∨ j = k) with h | rfl
                · exact hall.out j h
                · exact HE.out), Or.inr (by rw [HTS.out]; exact hbig)⟩
              case measure => simp [intOf]; omega
            · have HE := hide he
              clear he
              go_wp2_with ((go_at_call 10); (with_reducible refine (Calls.bool_eq (contains_st _ _ _) HE.out).mono ?_); rintro e w' ⟨rfl, rfl⟩)
              go_ret2
              exact ⟨ret_no HR.out (not_stand hlt HE.out), (by repeat (first | (with_reducible exact Below.refl _ _) | (with_reducible assumption) | (with_reducible refine below_go ?_ (by with_reducible assumption)) | (with_reducible refine below_new ?_ _) | ((with_reducible refine below_put ?_ ?_ _); rotate_left; (dsimp only; omega)) | (with_reducible refine Below.drew ?_) | (with_reducible refine below_dn ?_ _)))⟩
          · have e1 : decide ((n : Int) - 1 + (tot p k : Int) + ((p k).size : Int) > 4000) = true := decide_eq_true (by omega)
            have e2 : 4000 < (n : Int) - 1 + (tot p k : Int) + ((p k).size : Int) := by omega
            have hno : Hid (¬ ∃ c', (⟨#[c]⟩ : ByteArray) = ⟨#[c']⟩ ∧ 0 < n ∧ Good p n c') := by
              rintro ⟨c', _, _, _, hG⟩
              have h2 := HTM.out (k + 1) (by omega)
              rw [HTS.out] at h2
              omega
            go_wp2_with fail
            go_ret2
            exact ⟨ret_no HR.out hno.out, (by repeat (first | (with_reducible exact Below.refl _ _) | (with_reducible assumption) | (with_reducible refine below_go ?_ (by with_reducible assumption)) | (with_reducible refine below_new ?_ _) | ((with_reducible refine below_put ?_ ?_ _); rotate_left; (dsimp only; omega)) | (with_reducible refine Below.drew ?_) | (with_reducible refine below_dn ?_ _)))⟩
        · obtain rfl : k = n := by omega
          have hG : tot p k + (k - 1) ≤ 4000 := by rcases HLE.out with h | h <;> omega
          clear htm
          go_wp2_with ((go_at_call 11); (with_reducible refine (join_any p k cap g c hn hcap ht _ H1.out).mono ?_); rintro e w2 ⟨rfl, hb2⟩)
          go_wp2
          go_ret2
          exact ⟨ret_yes HR.out hpos ⟨hall.out, hG⟩, hb2⟩
    · have hne : ((sep.size : Int) != 1) = true := by simp; omega
      have HR := hide (ret_no hR (by rintro ⟨c, rfl, _, _⟩; exact h1 rfl))
      clear hR hH h1
      go_enter Try.func7, Try.ntmps7
      go_wp2
      go_ret2
      exact ⟨HR.out, (by repeat (first | (with_reducible exact Below.refl _ _) | (with_reducible assumption) | (with_reducible refine below_go ?_ (by with_reducible assumption)) | (with_reducible refine below_new ?_ _) | ((with_reducible refine below_put ?_ ?_ _); rotate_left; (dsimp only; omega)) | (with_reducible refine Below.drew ?_) | (with_reducible refine below_dn ?_ _)))⟩

end Go.Proofs.Ytbgfdeicjaencaa
