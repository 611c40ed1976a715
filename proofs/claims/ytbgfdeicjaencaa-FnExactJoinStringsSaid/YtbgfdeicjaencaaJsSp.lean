/-
  Contract: JoinStrings, the reference's.
-/
import Derived.Test.YtbgfdeicjaencaaJsS
namespace Go.Proofs.Ytbgfdeicjaencaa
open Go.RowKit

theorem Calls.bool_eq {P : Program} {f : FuncId} {args : Array Value} {w : World} {a b : Bool} (h : Calls P f args w fun e w' => e = .returned (.bool a) ∧ w = w') (e : a = b) : Calls P f args w fun e w' => e = .returned (.bool b) ∧ w = w' := e ▸ h
theorem Calls.quiet_of_eq {P : Program} {f : FuncId} {args : Array Value} {w : World} {n : Nat} {v : Value} (h : Calls P f args (w.drewN n) fun e w' => e = .returned v ∧ w.drewN n = w') : Calls P f args (w.drewN n) fun e w'' => e = .returned v ∧ ∃ m, w'' = w.drewN m :=
  h.mono fun _ _ ⟨he, hm⟩ => ⟨he, n, hm.symm⟩
theorem ret_no {p : Nat → ByteArray} {n : Nat} {sep s : ByteArray} {ok : Bool} (h : JR p n sep s ok) (hn : ¬ ∃ c, sep = ⟨#[c]⟩ ∧ 0 < n ∧ Good p n c) : Ending.returned (.tuple #[.string ⟨#[]⟩, .bool false]) = .returned (.tuple #[.string s, .bool ok]) := by
  obtain ⟨rfl, rfl⟩ := h.2 hn
  rfl
theorem ret_yes {p : Nat → ByteArray} {n : Nat} {c : UInt8} {s : ByteArray} {ok : Bool} (h : JR p n ⟨#[c]⟩ s ok) (h0 : 0 < n) (hG : Good p n c) : Ending.returned (.tuple #[.string (mkS (jL p c n)), .bool true]) = .returned (.tuple #[.string s, .bool ok]) := by
  obtain ⟨rfl, rfl⟩ := h.1 c rfl h0 hG
  rfl
theorem not_stand {p : Nat → ByteArray} {n k : Nat} {c : UInt8} (hk : k < n) (h : stB (p k) c = true) : ¬ ∃ c', (⟨#[c]⟩ : ByteArray) = ⟨#[c']⟩ ∧ 0 < n ∧ Good p n c' := by
  rintro ⟨c', e, _, hG, _⟩
  have : c' = c := by injection e with e; injection e with e; injection e with e; exact e.symm
  subst this
  rw [hG k hk] at h; cases h
theorem not_long {p : Nat → ByteArray} {n k : Nat} {c : UInt8} (hk : k < n) (h : 4000 < tot p (k + 1) + k) : ¬ ∃ c', (⟨#[c]⟩ : ByteArray) = ⟨#[c']⟩ ∧ 0 < n ∧ Good p n c' := by
  rintro ⟨c', _, _, _, hG⟩
  have := tot_mono p (show k + 1 ≤ n by omega)
  omega
theorem jL_size (p : Nat → ByteArray) (c : UInt8) (k : Nat) : (mkS (jL p c k)).size = tot p k + (k - 1) := by
  rw [mkS_size]
  cases k with
  | zero => simp [jL, Lib.join_nil, tot]
  | succ k => rw [jL_len]; simp

set_option maxRecDepth 100000 in
set_option maxHeartbeats 8000000 in
theorem specJoin_any (p : Nat → ByteArray) (n cap g : Nat) (sep : ByteArray) (s : ByteArray) (ok : Bool) (hR : JR p n sep s ok) (hn : n ≤ 1048576) (ht : tot p n ≤ 1048576) (w : World) (hH : Has w g n (fun o => .string (p o))) :
    Calls Try.prog 5 #[.slice (some ⟨g, 0, none⟩) n cap, .string sep] w fun e w' => e = .returned (.tuple #[.string s, .bool ok]) ∧ Below w.heap.size w w' := by
  by_cases h1 : sep.size = 1
  · obtain ⟨c, rfl⟩ := one_byte h1
    by_cases h0 : n = 0
    · subst h0
      have HR := hide (ret_no hR (by rintro ⟨_, _, h, _⟩; omega))
      clear hR hH
      go_enter Try.func5, Try.ntmps5
      go_wp2
      go_ret2
      exact ⟨HR.out, (by repeat (first | (with_reducible exact Below.refl _ _) | (with_reducible assumption) | (with_reducible refine below_go ?_ (by with_reducible assumption)) | (with_reducible refine below_new ?_ _) | ((with_reducible refine below_put ?_ ?_ _); rotate_left; (dsimp only; omega)) | (with_reducible refine Below.drew ?_) | (with_reducible refine below_dn ?_ _)))⟩
    · have hpos : 0 < n := by omega
      have hpi : (0 : Int) < n := by omega
      have hne : ((n : Int) == 0) = false := by simpa using h0
      have HR := hide hR
      have H1 := hide hH
      have HT := hide (fun k (hk : k < n) => tot_one p hk)
      clear hR hH h0 h1
      go_enter Try.func5, Try.ntmps5
      go_wp2
      go_loopw [6, 7] (fun v i wr => ∃ k : Nat, k ≤ n ∧ i = .int .i64 k ∧ v = .string (mkS (jL p c k)) ∧ Hid (∀ j, j < k → stB (p j) c = false) ∧ tot p k + k ≤ 4001 ∧ Below w.heap.size w wr) (fun _ i _ => n - (intOf i).toNat)
      case atStart => exact ⟨0, by omega, rfl, rfl, hide (fun j hj => absurd hj (Nat.not_lt_zero _)), by simp [tot], (by repeat (first | (with_reducible exact Below.refl _ _) | (with_reducible assumption) | (with_reducible refine below_go ?_ (by with_reducible assumption)) | (with_reducible refine below_new ?_ _) | ((with_reducible refine below_put ?_ ?_ _); rotate_left; (dsimp only; omega)) | (with_reducible refine Below.drew ?_) | (with_reducible refine below_dn ?_ _)))⟩
      case round =>
        obtain ⟨k, hk, rfl, rfl, hall, hle, hB⟩ := hrel
        have hsz := jL_size p c k
        have hs1 : (mkS (jL p c k)).size ≤ tot p k + (k - 1) := by omega
        have hs2 : tot p k + (k - 1) ≤ (mkS (jL p c k)).size := by omega
        clear hsz
        by_cases hlt : k < n
        · have a1 : (0 : Int) ≤ k := by omega
          have a2 : (k : Int) < n := by omega
          have q1 : wr.cell? ⟨g, k, none⟩ = some (.string (p k)) := (H1.out.call hB).1 k hlt
          have hz := HT.out k hlt
          have hz1 : (p k).size ≤ 1048576 := by omega
          have hz2 : (p k).size ≤ 9223372036854775807 := by omega
          have hst : ∀ w' : World, Calls Try.prog 9 #[.string (p k), .int .u8 (((⟨#[c]⟩ : ByteArray)[0]'(by show 0 < 1; omega)).toNat : Int)] w' fun e w2 => e = .returned (.bool (stB (p k) c)) ∧ w' = w2 := l1Stands_any (p k) c hz2
          clear hz hz2
          cases he : stB (p k) c
          · rw [he] at hst
            have HST := hide hst
            have HE := hide he
            clear he hst
            have HTS : Hid (tot p (k + 1) = tot p k + (p k).size) := rfl
            have HJ := hide (jL_succ p c k)
            have q0 : ∃ S : ByteArray, Hid (S = mkS (jH p c k)) ∧ ((k : Int) ≤ 0 ∧ Hid (mkS (jL p c k) = S) ∨ 0 < (k : Int) ∧ Hid (mkS (jL p c k) ++ ⟨#[c]⟩ = S)) := by
              by_cases hz : k = 0
              · subst hz; exact ⟨_, rfl, Or.inl ⟨by omega, rfl⟩⟩
              · refine ⟨_, rfl, Or.inr ⟨by omega, ?_⟩⟩
                show mkS (jL p c k) ++ mkS [c] = _
                rw [mkS_app]; simp [jH, hz]
            have hbig : 4000 < tot p k + (p k).size + k ∨ tot p k + (p k).size + k ≤ 4000 := by omega
            obtain ⟨S, hS, h | h⟩ := q0
            all_goals
              obtain ⟨a3, hS2⟩ := h
              rcases hbig with hbig | hbig
            all_goals
              go_wp2_with fail
              go_quiet ((go_at_call 9; exact Calls.quiet_of_eq (HST.out _)))
              go_wp2
              first
              | (go_ret2
                 exact ⟨ret_no HR.out (not_long hlt (by rw [HTS.out]; exact hbig)), (by repeat (first | (with_reducible exact Below.refl _ _) | (with_reducible assumption) | (with_reducible refine below_go ?_ (by with_reducible assumption)) | (with_reducible refine below_new ?_ _) | ((with_reducible refine below_put ?_ ?_ _); rotate_left; (dsimp only; omega)) | (with_reducible refine Below.drew ?_) | (with_reducible refine below_dn ?_ _)))⟩)
              | (go_roundw
                 case rel => exact ⟨k + 1, by omega, by go_num, congrArg Value.string (by
                   rw [HJ.out, ← mkS_app, mkS_data, ← hS.out, ← hS2.out]), hide (fun j hj => by
                     rcases (by omega : j < k ∨ j = k) with h | rfl
                     · exact hall.out j h
                     · exact HE.out), by rw [HTS.out]; omega, (by repeat (first | (with_reducible exact Below.refl _ _) | (with_reducible assumption) | (with_reducible refine below_go ?_ (by with_reducible assumption)) | (with_reducible refine below_new ?_ _) | ((with_reducible refine below_put ?_ ?_ _); rotate_left; (dsimp only; omega)) | (with_reducible refine Below.drew ?_) | (with_reducible refine below_dn ?_ _)))⟩
                 case measure => (simp [intOf]; omega))
          · rw [he] at hst
            have HST := hide hst
            have HE := hide he
            clear he hst
            go_wp2_with fail
            go_quiet ((go_at_call 9; exact Calls.quiet_of_eq (HST.out _)))
            go_wp2
            go_ret2
            exact ⟨ret_no HR.out (not_stand hlt HE.out), (by repeat (first | (with_reducible exact Below.refl _ _) | (with_reducible assumption) | (with_reducible refine below_go ?_ (by with_reducible assumption)) | (with_reducible refine below_new ?_ _) | ((with_reducible refine below_put ?_ ?_ _); rotate_left; (dsimp only; omega)) | (with_reducible refine Below.drew ?_) | (with_reducible refine below_dn ?_ _)))⟩
        · obtain rfl : k = n := by omega
          go_wp2
          go_ret2
          exact ⟨ret_yes HR.out hpos ⟨hall.out, by omega⟩, hB⟩
  · have hne : ((sep.size : Int) != 1) = true := by simp; omega
    have HR := hide (ret_no hR (by rintro ⟨c, rfl, _, _⟩; exact h1 rfl))
    clear hR hH h1
    go_enter Try.func5, Try.ntmps5
    go_wp2
    go_ret2
    exact ⟨HR.out, (by repeat (first | (with_reducible exact Below.refl _ _) | (with_reducible assumption) | (with_reducible refine below_go ?_ (by with_reducible assumption)) | (with_reducible refine below_new ?_ _) | ((with_reducible refine below_put ?_ ?_ _); rotate_left; (dsimp only; omega)) | (with_reducible refine Below.drew ?_) | (with_reducible refine below_dn ?_ _)))⟩

end Go.Proofs.Ytbgfdeicjaencaa
