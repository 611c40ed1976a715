/-
  Contracts: the laws' comparison, marking and reading of slices of strings.
-/
import Derived.Test.YtbgfdeicjaencaaDoorSl0
import Derived.Test.YtbgfdeicjaencaaDoorSpWords
import Derived.Test.YtbgfdeicjaencaaDoorNum
namespace Go.Proofs.YtbgfdeicjaencaaDoor
open Go.RowKit

theorem info_s1 : (Tryd.prog.info? 9).map (·.size) = some 1 := by kernel_rfl
theorem store_strS {ops : Array Oper} {rest : List Oper} {op : Oper} {a : Act} {w : World} {Q : Exit → Act → World → Prop} (hgd : op.guard = none) (x y : Operand) (ho : op.op = .store 9 x y)
    (b o : Nat) (v : ByteArray) (hx : a.eval x = .pointer (some ⟨b, o, none⟩)) (hy : a.eval y = .string v) {n : Nat} {c : Nat → Value} (hH : Has w b n c) (hle : o < n)
    (h : ∀ w2, Only b w w2 → Has w2 b n (fun j => if j = o then .string v else c j) → wpList Tryd.prog ops Q rest (a.put op.dst undef) w2) : wpList Tryd.prog ops Q (op :: rest) a w :=
  store_one 9 info_s1 hgd x y ho b o _ hx hy rfl hH hle h

def dgC (k : Nat) : UInt8 := UInt8.ofNat (48 + k % 10)
/-- The digits of a mark. -/
def mkD (n : Nat) : List UInt8 := if _h : n = 0 then [] else mkD (n / 10) ++ [dgC n]
termination_by n
decreasing_by omega
theorem mkD_zero : mkD 0 = [] := by rw [mkD]; rfl
theorem mkD_pos {n : Nat} (h : 0 < n) : mkD n = mkD (n / 10) ++ [dgC n] := by
  conv => lhs; rw [mkD]
  rw [dif_neg (by omega)]
theorem mkD_len : ∀ (k n : Nat), n < 10 ^ k → (mkD n).length ≤ k
  | 0, n, h => by
    have : n = 0 := by simpa using h
    subst this; rw [mkD_zero]; simp
  | k + 1, n, h => by
    rcases Nat.eq_zero_or_pos n with h0 | h0
    · subst h0; rw [mkD_zero]; simp
    · rw [mkD_pos h0]
      have := mkD_len k (n / 10) (by rw [Nat.pow_succ] at h; omega)
      simp; omega
def mkT (n : Nat) : ByteArray := mkS (109 :: mkD n)

theorem dig_u8 (k : Nat) : (48 + (k : Int) % 10) % 256 = ((dgC k).toNat : Int) := by
  have h : ∀ d : Nat, d < 10 → (48 + (d : Int)) % 256 = ((UInt8.ofNat (48 + d)).toNat : Int) := by decide
  unfold dgC
  rw [← h (k % 10) (by omega)]
  congr 1
theorem conv_dig (k : Nat) (x : Int) (hx : x = ((dgC k).toNat : Int)) (w : World) : (convert 33 9 (.slice (some ⟨w.heap.size, 0, none⟩) 1 1)).run Tryd.prog (w.alloc (.cells #[.int .u8 x] 5)) = .ok (.string (mkS [dgC k])) (w.alloc (.cells #[.int .u8 x] 5)) := by
  refine run_convert_bytes_back _ _ _ 5 _ 1 [dgC k] Tryd.underlying33 Tryd.underlying5 Tryd.underlying9 ?_
  intro j hj
  have hj0 : j = 0 := by simpa using hj
  subst hj0
  rw [hx]
  exact one_cell 0 _ rfl

set_option maxRecDepth 100000 in
set_option maxHeartbeats 4000000 in
theorem markText_any (n : Nat) (h0 : 0 < n) (hn : n ≤ 1000000) (w : World) : Calls Tryd.prog 41 #[.int .i64 (n : Int)] w fun e w' => e = .returned (.string (mkT n)) ∧ Below w.heap.size w w' := by
  have hpos : (0 : Int) < n := by omega
  go_enter Tryd.func41, Tryd.ntmps41
  go_wp2
  go_loopw [0, 3] (fun v s wr => ∃ (k : Nat) (l : List UInt8), k ≤ n ∧ v = .int .i64 k ∧ s = .string (mkS l) ∧ Hid (mkD n = mkD k ++ l) ∧ Below w.heap.size w wr) (fun v _ _ => (intOf v).toNat)
  case atStart => exact ⟨n, [], Nat.le_refl _, rfl, rfl, hide (by simp), (by repeat (first | (with_reducible exact Below.refl _ _) | (with_reducible assumption) | (with_reducible refine below_go ?_ (by with_reducible assumption)) | (with_reducible refine below_new ?_ _) | ((with_reducible refine below_put ?_ ?_ _); rotate_left; (dsimp only; omega)) | (with_reducible refine Below.drew ?_) | (with_reducible refine below_dn ?_ _)))⟩
  case round =>
    obtain ⟨k, l, hk, rfl, rfl, HD, hB⟩ := hrel
    have hl : (mkS l).size ≤ 7 := by
      have h1 := congrArg List.length HD.out
      have h2 := mkD_len 7 n (by omega)
      rw [List.length_append] at h1
      rw [mkS_size]; omega
    rcases Nat.eq_zero_or_pos k with h0 | h0
    · subst h0
      have HR : Hid ((⟨#[109]⟩ : ByteArray) ++ mkS l = mkT n) := hide (by
        have := HD.out
        rw [mkD_zero, List.nil_append] at this
        show mkS [109] ++ mkS l = _
        rw [mkS_app, mkT, this]; rfl)
      go_wp2
      go_ret
      exact ⟨congrArg (fun s => Ending.returned (.string s)) HR.out, hB⟩
    · have a1 : (0 : Int) < k := by omega
      have hcv := conv_dig k _ (dig_u8 k) wr
      have hcv2 := conv_dig k _ (show 48 + (k : Int) % 10 = _ by rw [← dig_u8]; omega) wr
      have hs1 : (mkS [dgC k]).size ≤ 1 := Nat.le_refl 1
      go_wp2
      go_roundw
      case rel => exact ⟨k / 10, dgC k :: l, by omega, by go_num, by rw [mkS_app]; rfl, hide (by rw [HD.out, mkD_pos h0, List.append_assoc]; rfl), (by repeat (first | (with_reducible exact Below.refl _ _) | (with_reducible assumption) | (with_reducible refine below_go ?_ (by with_reducible assumption)) | (with_reducible refine below_new ?_ _) | ((with_reducible refine below_put ?_ ?_ _); rotate_left; (dsimp only; omega)) | (with_reducible refine Below.drew ?_) | (with_reducible refine below_dn ?_ _)))⟩
      case measure => simp [intOf]; omega

end Go.Proofs.YtbgfdeicjaencaaDoor
