/-
  Contract: the reference's text of a number.
-/
import Derived.Test.YtbgfdeicjaencaaDoorBase0
import Derived.Lib.ItoaMem
import Derived.Lib.ItoaLen
import Derived.Deep.DeepCutAuto
namespace Go.Proofs.YtbgfdeicjaencaaDoor
open Go.RowKit

def mkS (l : List UInt8) : ByteArray := ⟨l.toArray⟩
theorem mkS_app (l m : List UInt8) : mkS l ++ mkS m = mkS (l ++ m) := by
  apply ByteArray.ext
  simp [mkS]
theorem mkS_size (l : List UInt8) : (mkS l).size = l.length := by simp [mkS, ByteArray.size]
theorem dig_sub : ∀ t : Nat, t < 10 → ((⟨#[48, 49, 50, 51, 52, 53, 54, 55, 56, 57]⟩ : ByteArray).extract t (t + 1)) = mkS [UInt8.ofNat (48 + t)] := by decide
theorem Calls.quiet_of_draws {P : Program} {f : FuncId} {args : Array Value} {w : World} {n : Nat} {v : Value} (h : Calls P f args (w.drewN n) fun e w' => e = .returned v ∧ ∃ m, w' = (w.drewN n).drewN m) : Calls P f args (w.drewN n) fun e w'' => e = .returned v ∧ ∃ m, w'' = w.drewN m :=
  h.mono fun _ _ ⟨he, m, hm⟩ => ⟨he, n + m, hm.trans (by simp [World.drewN, Nat.add_assoc])⟩
theorem dd_small {u : Nat} (h : u < 10) : Lib.decDigits u = [UInt8.ofNat (48 + u)] := by rw [Lib.decDigits, dif_pos h]
theorem dd_big {u : Nat} (h : ¬ u < 10) : Lib.decDigits u = Lib.decDigits (u / 10) ++ [UInt8.ofNat (48 + u % 10)] := by rw [Lib.decDigits, dif_neg h]
theorem dd_len (u : Nat) (h : u ≤ 9999999) : (mkS (Lib.decDigits u)).size ≤ 30 := by
  have := Lib.itoa_length_le (u : Int) (by omega) (by omega)
  rw [Lib.itoa_nonneg] at this
  rw [mkS_size]; omega

set_option maxRecDepth 100000 in
set_option maxHeartbeats 4000000 in
theorem l1Num_nat (u : Nat) (hu : u ≤ 9999999) : ∀ w : World, Calls Tryd.prog 36 #[.int .i64 (u : Int)] w fun e w' => e = .returned (.string (mkS (Lib.decDigits u))) ∧ ∃ m, w' = w.drewN m := by
  induction u using Nat.strongRecOn with
  | ind u ih =>
    intro w
    have a0 : (0 : Int) ≤ u := by omega
    have a1 : (u : Int) ≤ 9999999 := by omega
    by_cases h10 : u < 10
    · have a2 : (u : Int) < 10 := by omega
      have HD := hide (dd_small h10)
      have hsub := hide (dig_sub u h10)
      clear ih
      go_enter Tryd.func36, Tryd.ntmps36
      go_wp2
      go_ret
      exact ⟨congrArg (fun x => Ending.returned (Value.string x)) (hsub.out.trans (by rw [HD.out])), 0, rfl⟩
    · have a2 : (10 : Int) ≤ u := by omega
      have HD := hide (dd_big h10)
      have IH := hide (ih (u / 10) (by omega) (by omega))
      clear ih
      obtain ⟨q, hq⟩ : ∃ q, q = u / 10 := ⟨_, rfl⟩
      obtain ⟨r, hr⟩ : ∃ r, r = u % 10 := ⟨_, rfl⟩
      have hr10 : r < 10 := by omega
      have r0 : (0 : Int) ≤ r := by omega
      have r1 : (r : Int) ≤ 9 := by omega
      have hsz := dd_len q (by omega)
      have hsub := hide (dig_sub r hr10)
      have e1 : (u : Int).tdiv 10 = (q : Int) := by rw [Int.tdiv_eq_ediv_of_nonneg a0]; omega
      have e2 : (u : Int).tmod 10 = (r : Int) := by rw [Int.tmod_eq_emod_of_nonneg a0]; omega
      have e3 : (u : Int) / 10 = (q : Int) := by omega
      have e4 : (u : Int) % 10 = (r : Int) := by omega
      have e5 : IntKind.i64.wrap (q : Int) = (q : Int) := IntWalk.i64_in _ (by omega)
      have e6 : IntKind.i64.wrap ((r : Int) + 1) = (r : Int) + 1 := IntWalk.i64_in _ (by omega)
      have e7 : IntKind.i64.wrap (r : Int) = (r : Int) := IntWalk.i64_in _ (by omega)
      rw [← hq] at IH
      rw [← hq, ← hr] at HD
      have HQ := hide hq
      have HR := hide hr
      clear hq hr h10
      go_enter Tryd.func36, Tryd.ntmps36
      go_wp2_with fail
      go_quiet ((go_at_call 36; exact Calls.quiet_of_draws (IH.out _)))
      go_wp2
      go_ret
      exact ⟨congrArg (fun x => Ending.returned (Value.string x)) ((congrArg (fun x => mkS (Lib.decDigits q) ++ x) hsub.out).trans ((mkS_app _ _).trans (by rw [HD.out]))), _, rfl⟩

theorem neg_sub : (⟨#[45]⟩ : ByteArray) = mkS [45] := rfl
set_option maxRecDepth 100000 in
set_option maxHeartbeats 4000000 in
theorem l1Num_neg (u : Nat) (h1 : 1 ≤ u) (hu : u ≤ 9999999) : ∀ w : World, Calls Tryd.prog 36 #[.int .i64 (-(u : Int))] w fun e w' => e = .returned (.string (mkS (45 :: Lib.decDigits u))) ∧ ∃ m, w' = w.drewN m := by
  induction u using Nat.strongRecOn with
  | ind u ih =>
    intro w
    have a0 : (1 : Int) ≤ u := by omega
    have a1 : (u : Int) ≤ 9999999 := by omega
    have a3 : -(u : Int) < 0 := by omega
    by_cases h10 : u < 10
    · have a2 : -10 < -(u : Int) := by omega
      have hsz := dd_len u (by omega)
      have HN := hide (l1Num_nat u (by omega))
      clear ih
      go_enter Tryd.func36, Tryd.ntmps36
      go_wp2_with fail
      refine (HN.out _).mono ?_
      rintro e w2 ⟨rfl, m, rfl⟩
      go_wp2
      go_ret
      exact ⟨congrArg (fun x => Ending.returned (Value.string x)) (mkS_app [45] _), m, rfl⟩
    · have a2 : -(u : Int) ≤ -10 := by omega
      have HD := hide (dd_big h10)
      have IH := hide (ih (u / 10) (by omega) (by omega) (by omega))
      clear ih
      obtain ⟨q, hq⟩ : ∃ q, q = u / 10 := ⟨_, rfl⟩
      obtain ⟨r, hr⟩ : ∃ r, r = u % 10 := ⟨_, rfl⟩
      have hr10 : r < 10 := by omega
      have r0 : (0 : Int) ≤ r := by omega
      have r1 : (r : Int) ≤ 9 := by omega
      have q1 : (1 : Int) ≤ q := by omega
      have q2 : (q : Int) ≤ 999999 := by omega
      have hsz := dd_len q (by omega)
      have HDR := hide (dd_small hr10)
      have HN := hide (l1Num_nat r (by omega))
      have hsz2 := dd_len r (by omega)
      have hsz3 : (mkS (45 :: Lib.decDigits q)).size ≤ 31 := by rw [mkS_size] at hsz ⊢; simp; omega
      have e1 : (-(u : Int)).tdiv 10 = -(q : Int) := by rw [Int.neg_tdiv, Int.tdiv_eq_ediv_of_nonneg (by omega)]; omega
      have e2 : (-(u : Int)).tmod 10 = -(r : Int) := by rw [Int.neg_tmod, Int.tmod_eq_emod_of_nonneg (by omega)]; omega
      rw [← hq] at IH
      rw [← hq, ← hr] at HD
      have HQ := hide hq
      have HR := hide hr
      clear hq hr h10
      go_enter Tryd.func36, Tryd.ntmps36
      go_wp2_with fail
      refine (IH.out _).mono ?_
      rintro e w2 ⟨rfl, m, rfl⟩
      go_wp2_with fail
      refine (HN.out _).mono ?_
      rintro e w2 ⟨rfl, m2, rfl⟩
      go_wp2
      go_ret
      exact ⟨congrArg (fun x => Ending.returned (Value.string x)) ((mkS_app _ _).trans (by rw [HD.out, HDR.out]; rfl)), m + m2, by simp [World.drewN, Nat.add_assoc]⟩

theorem l1Num_any (n : Int) (h0 : -9999999 ≤ n) (h1 : n ≤ 9999999) (w : World) : Calls Tryd.prog 36 #[.int .i64 n] w fun e w' => e = .returned (.string (mkS (Lib.itoa n))) ∧ Below w.heap.size w w' := by
  by_cases hn : n < 0
  · obtain ⟨u, rfl⟩ : ∃ u : Nat, n = -(u : Int) := ⟨n.natAbs, by omega⟩
    rw [Lib.itoa_neg u (by omega)]
    exact (l1Num_neg u (by omega) (by omega) w).mono fun e w' ⟨he, m, hw⟩ => ⟨he, hw ▸ below_dn (Below.refl _ _) m⟩
  · obtain ⟨u, rfl⟩ : ∃ u : Nat, n = (u : Int) := ⟨n.toNat, by omega⟩
    rw [Lib.itoa_nonneg]
    exact (l1Num_nat u (by omega) w).mono fun e w' ⟨he, m, hw⟩ => ⟨he, hw ▸ below_dn (Below.refl _ _) m⟩

end Go.Proofs.YtbgfdeicjaencaaDoor
