/-
  Contracts: JoinStrings, the reference's; the laws' words on lists of strings.
-/
import Derived.Test.YtbgfdeicjaencaaJsWords
namespace Go.Proofs.Ytbgfdeicjaencaa
open Go.RowKit

theorem info_s : (Try.prog.info? 9).map (·.size) = some 1 := by kernel_rfl
theorem info_str : (Try.prog.info? 9).map (fun i => (i.zero, i.size, i.bytes)) = some (some (.string ByteArray.empty), 1, 16) := by kernel_rfl
theorem store_str {ops : Array Oper} {rest : List Oper} {op : Oper} {a : Act} {w : World} {Q : Exit → Act → World → Prop} (hgd : op.guard = none) (x y : Operand) (ho : op.op = .store 9 x y)
    (b o : Nat) (v : ByteArray) (hx : a.eval x = .pointer (some ⟨b, o, none⟩)) (hy : a.eval y = .string v) {n : Nat} {c : Nat → Value} (hH : Has w b n c) (hle : o < n)
    (h : ∀ w2, Only b w w2 → Has w2 b n (fun j => if j = o then .string v else c j) → wpList Try.prog ops Q rest (a.put op.dst undef) w2) : wpList Try.prog ops Q (op :: rest) a w :=
  store_one 9 info_s hgd x y ho b o _ hx hy rfl hH hle h
def FilT (w : World) (g n k : Nat) (p : Nat → ByteArray) : Prop := ∃ c, Has w g n c ∧ ∀ o, o < k → c o = .string (p o)
theorem madeCells_size1 (z : Value) (n : Nat) : (madeCells #[z] n).size = n := by simp [madeCells]

set_option maxRecDepth 100000 in
set_option maxHeartbeats 4000000 in
theorem toStringS_any (A : Option Addr) (n cap : Nat) (p : Nat → ByteArray) (hn : n ≤ 1048576) (w : World) (h : ArgT w A n p) :
    Calls Try.prog 6 #[.slice A n cap] w fun e w' => ∃ g, e = .returned (.slice (some ⟨g, 0, none⟩) n n) ∧ w.heap.size ≤ g ∧ Has w' g n (fun o => .string (p o)) ∧ Below w.heap.size w w' := by
  have hmk := run_make_row' (P := Try.prog) 22 9 (.string ByteArray.empty) 16 Try.underlying22 info_str rfl .i64 .i64 n (by omega) (by omega)
  rcases Nat.eq_zero_or_pos n with h0 | h0
  · subst h0
    clear h
    simp only [Int.natCast_zero] at hmk
    go_enter Try.func6, Try.ntmps6
    go_wp2
    refine wp_loop_rounds 1 ?_
    rw [rounds_succ]
    go_wp2
    go_ret
    exact ⟨_, rfl, Nat.le_refl _, (Has.new' (madeCells_size1 _ _)).congr (fun o ho => absurd ho (Nat.not_lt_zero o)), (by repeat (first | (with_reducible exact Below.refl _ _) | (with_reducible assumption) | (with_reducible refine below_go ?_ (by with_reducible assumption)) | (with_reducible refine below_new ?_ _) | ((with_reducible refine below_put ?_ ?_ _); rotate_left; (dsimp only; omega)) | (with_reducible refine Below.drew ?_) | (with_reducible refine below_dn ?_ _)))⟩
  · obtain ⟨b, off, rfl, hlt, hc⟩ := h.2 h0
    have HC := hide hc
    clear hc h
    go_enter Try.func6, Try.ntmps6
    go_upto_region 3 with (fail)
    generalize hW : World.alloc _ _ = w1
    have hB : Below w.heap.size w w1 := by (rw [← hW]; exact (by repeat (first | (with_reducible exact Below.refl _ _) | (with_reducible assumption) | (with_reducible refine below_go ?_ (by with_reducible assumption)) | (with_reducible refine below_new ?_ _) | ((with_reducible refine below_put ?_ ?_ _); rotate_left; (dsimp only; omega)) | (with_reducible refine Below.drew ?_) | (with_reducible refine below_dn ?_ _))))
    have i0 : FilT w1 w.heap.size n 0 p := ⟨_, by (rw [← hW]; exact Has.new' (madeCells_size1 _ _)), fun o ho => absurd ho (Nat.not_lt_zero o)⟩
    clear hW hmk
    go_loopw [4] (fun v wr => ∃ k : Nat, k ≤ n ∧ v = .int .i64 k ∧ Below w.heap.size w wr ∧ FilT wr w.heap.size n k p) (fun i _ => n - (intOf i).toNat)
    case atStart => exact ⟨0, by omega, rfl, hB, i0⟩
    case round =>
      clear hB i0
      obtain ⟨k, hk, rfl, hB, c, i0, hcx⟩ := hrel
      have HX := hide hcx
      clear hcx
      by_cases hlt2 : k < n
      · have a1 : (0 : Int) ≤ k := by omega
        have a2 : (k : Int) < n := by omega
        have q1 : wr.cell? ⟨b, off + k, none⟩ = some (.string (p k)) := (hB.cell (p := ⟨b, off + k, none⟩) hlt).trans (HC.out k hlt2)
        go_wp2_with (first | (refine store_str rfl _ _ rfl _ _ _ rfl rfl (by repeat (first | (with_reducible assumption) | (with_reducible apply Has.set) | ((with_reducible apply Has.other); (case hne => (dsimp only; omega))) | (with_reducible apply Has.alloc) | (with_reducible apply Has.drew) | (with_reducible apply Has.drewN))) (by omega) ?_; intro w3 ho3 hn3; have hB' : Below w.heap.size w w3 := below_only (by repeat (first | (with_reducible exact Below.refl _ _) | (with_reducible assumption) | (with_reducible refine below_go ?_ (by with_reducible assumption)) | (with_reducible refine below_new ?_ _) | ((with_reducible refine below_put ?_ ?_ _); rotate_left; (dsimp only; omega)) | (with_reducible refine Below.drew ?_) | (with_reducible refine below_dn ?_ _))) ho3 (by omega); have i0' : Has w3 (w.heap.size) n _ := (by first | (with_reducible exact hn3) | exact Has.only (by repeat (first | (with_reducible assumption) | (with_reducible apply Has.set) | ((with_reducible apply Has.other); (case hne => (dsimp only; omega))) | (with_reducible apply Has.alloc) | (with_reducible apply Has.drew) | (with_reducible apply Has.drewN))) ho3 (by omega)); clear ho3 hn3; clear hB; have hB := hB'; clear hB'; (try clear fi0); (try clear zi0); (try clear ci0); clear i0; have i0 := i0'; clear i0'; have ci0 := i0.1; have fi0 := i0.2.1; have zi0 := i0.2.2))
        go_roundw
        case rel => exact ⟨k + 1, by omega, by go_num, hB, _, i0, fun o ho => by
          by_cases e : o = k
          · subst e; simp
          · simp only [e, if_false]; exact HX.out o (by omega)⟩
        case measure => simp [intOf]; omega
      · obtain rfl : k = n := by omega
        go_wp2
        go_ret
        exact ⟨_, rfl, Nat.le_refl _, i0.congr HX.out, hB⟩

def SzR (p : Nat → ByteArray) (n : Nat) (r : Int) : Prop := r = -1 ∨ (0 ≤ r ∧ n ≤ 1048576 ∧ tot p n ≤ 1048576)
set_option maxRecDepth 100000 in
set_option maxHeartbeats 4000000 in
theorem szStringS_any (A : Option Addr) (n cap : Nat) (p : Nat → ByteArray) (hn : n ≤ 9223372036854775807) (w : World) (h : ArgT w A n p) :
    Calls Try.prog 4 #[.slice A n cap, .int .i64 1048576] w fun e w' => ∃ r, e = .returned (.int .i64 r) ∧ SzR p n r ∧ w = w' := by
  by_cases hbig : n ≤ 1048576
  · have hbi : (n : Int) ≤ 1048576 := by omega
    rcases Nat.eq_zero_or_pos n with h0 | h0
    · subst h0
      clear h
      go_enter Try.func4, Try.ntmps4
      go_wp2
      refine wp_loop_rounds 1 ?_
      rw [rounds_succ]
      go_wp2
      go_ret
      exact ⟨_, rfl, .inr ⟨by omega, by omega, by simp [tot]⟩, rfl⟩
    · obtain ⟨b, off, rfl, hlt, hc⟩ := h.2 h0
      have HC := hide hc
      have HZ := hide h.1
      clear hc h
      have hd0 : decide (1048576 - (n : Int) < 0) = false := decide_eq_false (by omega)
      go_enter Try.func4, Try.ntmps4
      go_wp2
      go_loop [1, 5] (fun v i => ∃ k : Nat, k ≤ n ∧ i = .int .i64 k ∧ v = .int .i64 (1048576 - (n : Int) - (tot p k : Int)) ∧ n + tot p k ≤ 1048576) (fun _ i => n - (intOf i).toNat)
      case atStart => exact ⟨0, by omega, rfl, by simp [tot], by simp [tot]; omega⟩
      case round =>
        obtain ⟨k, hk, rfl, rfl, hle⟩ := hrel
        by_cases hlt2 : k < n
        · have a1 : (0 : Int) ≤ k := by omega
          have a2 : (k : Int) < n := by omega
          have q1 : w.cell? ⟨b, off + k, none⟩ = some (.string (p k)) := HC.out k hlt2
          have hz := HZ.out k hlt2
          have hts : tot p (k + 1) = tot p k + (p k).size := rfl
          have HTS := hide hts
          clear hts
          have hz2 : ((p k).size : Int) ≤ 9223372036854775807 := by omega
          have hz3 : (0 : Int) ≤ (p k).size := by omega
          have hz4 : (tot p k : Int) ≤ 1048576 := by omega
          by_cases hneg : n + tot p k + (p k).size ≤ 1048576
          · have e1 : decide (1048576 - (n : Int) - (tot p k : Int) - ((p k).size : Int) < 0) = false := decide_eq_false (by omega)
            have e2 : (0 : Int) ≤ 1048576 - (n : Int) - (tot p k : Int) - ((p k).size : Int) := by omega
            go_wp2
            go_round
            case rel => exact ⟨k + 1, by omega, by go_num, by rw [HTS.out]; go_num, by rw [HTS.out]; omega⟩
            case measure => simp [intOf]; omega
          · have e1 : decide (1048576 - (n : Int) - (tot p k : Int) - ((p k).size : Int) < 0) = true := decide_eq_true (by omega)
            have e2 : 1048576 - (n : Int) - (tot p k : Int) - ((p k).size : Int) < 0 := by omega
            go_wp2
            go_ret
            exact ⟨_, rfl, .inl rfl, rfl⟩
        · obtain rfl : k = n := by omega
          go_wp2
          go_ret
          exact ⟨_, rfl, .inr ⟨by omega, hbig, by omega⟩, rfl⟩
  · have hbi : 1048576 < (n : Int) := by omega
    have hbi2 : 1048576 - (n : Int) < 0 := by omega
    clear h
    go_enter Try.func4, Try.ntmps4
    go_wp2
    go_ret
    exact ⟨_, rfl, .inl rfl, rfl⟩

set_option maxRecDepth 100000 in
set_option maxHeartbeats 4000000 in
theorem eqStringS_same (g g' n c1 c2 : Nat) (p : Nat → ByteArray) (hn : n ≤ 1048576) (w : World) (hH : Has w g n (fun o => .string (p o))) (hH' : Has w g' n (fun o => .string (p o))) :
    Calls Try.prog 8 #[.slice (some ⟨g, 0, none⟩) n c1, .slice (some ⟨g', 0, none⟩) n c2] w fun e w' => e = .returned (.bool true) ∧ Below w.heap.size w w' := by
  have H1 := hide hH
  have H2 := hide hH'
  clear hH hH'
  go_enter Try.func8, Try.ntmps8
  go_wp2
  go_loopw [5] (fun v wr => ∃ k : Nat, k ≤ n ∧ v = .int .i64 k ∧ Below w.heap.size w wr) (fun i _ => n - (intOf i).toNat)
  case atStart => exact ⟨0, by omega, rfl, (by repeat (first | (with_reducible exact Below.refl _ _) | (with_reducible assumption) | (with_reducible refine below_go ?_ (by with_reducible assumption)) | (with_reducible refine below_new ?_ _) | ((with_reducible refine below_put ?_ ?_ _); rotate_left; (dsimp only; omega)) | (with_reducible refine Below.drew ?_) | (with_reducible refine below_dn ?_ _)))⟩
  case round =>
    obtain ⟨k, hk, rfl, hB⟩ := hrel
    by_cases hlt : k < n
    · have i1 := H1.out.call hB
      have i2 := H2.out.call hB
      have a1 : (0 : Int) ≤ k := by omega
      have a2 : (k : Int) < n := by omega
      have q1 : wr.cell? ⟨g, k, none⟩ = some (.string (p k)) := i1.1 _ hlt
      have q2 : wr.cell? ⟨g', k, none⟩ = some (.string (p k)) := i2.1 _ hlt
      clear i1 i2
      go_wp2_with fail
      go_quiet (fail)
      go_wp2
      go_roundw
      case rel => exact ⟨k + 1, by omega, by go_num, (by repeat (first | (with_reducible exact Below.refl _ _) | (with_reducible assumption) | (with_reducible refine below_go ?_ (by with_reducible assumption)) | (with_reducible refine below_new ?_ _) | ((with_reducible refine below_put ?_ ?_ _); rotate_left; (dsimp only; omega)) | (with_reducible refine Below.drew ?_) | (with_reducible refine below_dn ?_ _)))⟩
      case measure => simp [intOf]; omega
    · obtain rfl : k = n := by omega
      go_wp2
      go_ret
      exact ⟨rfl, hB⟩

theorem data_get (s : ByteArray) (k : Nat) (h : k < s.size) : s.data.toList[k]'(by simpa using h) = s[k] := rfl
theorem stB_true {s : ByteArray} {c : UInt8} {k : Nat} (h : k < s.size) (e : s[k] = c) : stB s c = true := by
  unfold stB
  rw [List.contains_iff_mem, ← e, ← data_get s k h]
  exact List.getElem_mem _
theorem stB_false {s : ByteArray} {c : UInt8} (h : ∀ j (hj : j < s.size), s[j] ≠ c) : stB s c = false := by
  cases hs : stB s c
  · rfl
  · unfold stB at hs
    rw [List.contains_iff_mem, List.mem_iff_getElem] at hs
    obtain ⟨j, hj, e⟩ := hs
    exact absurd e (h j (by simpa using hj))
set_option maxRecDepth 100000 in
set_option maxHeartbeats 4000000 in
theorem l1Stands_any (s : ByteArray) (c : UInt8) (hs : s.size ≤ 9223372036854775807) (w : World) : Calls Try.prog 9 #[.string s, .int .u8 (c.toNat : Int)] w fun e w' => e = .returned (.bool (stB s c)) ∧ w = w' := by
  go_enter Try.func9, Try.ntmps9
  go_wp2
  go_loop [5] (fun i => ∃ k : Nat, k ≤ s.size ∧ i = .int .i64 k ∧ Hid (∀ j, j < k → ∀ hj : j < s.size, s[j] ≠ c)) (fun i => s.size - (intOf i).toNat)
  case atStart => exact ⟨0, Nat.zero_le _, rfl, hide (fun j hj => absurd hj (Nat.not_lt_zero _))⟩
  case round =>
    obtain ⟨k, hk, rfl, hall⟩ := hrel
    by_cases hlt : k < s.size
    · have a1 : (0 : Int) ≤ k := by omega
      have a2 : (k : Int) < s.size := by omega
      by_cases he : s[k] = c
      · have e1 : ((s[k].toNat : Int) == (c.toNat : Int)) = true := by rw [he]; simp
        have HE := hide (stB_true hlt he)
        clear he
        go_wp2
        go_ret
        exact ⟨ret_bool HE.out.symm, rfl⟩
      · have e1 : ((s[k].toNat : Int) == (c.toNat : Int)) = false := by
          simp only [beq_eq_false_iff_ne, ne_eq]
          intro h
          exact he (UInt8.toNat_inj.1 (by omega))
        have HE := hide he
        clear he
        go_wp2
        go_round
        case rel => exact ⟨k + 1, by omega, by go_num, hide (fun j hj hj2 => by
          rcases (by omega : j < k ∨ j = k) with h | rfl
          · exact hall.out j h hj2
          · exact HE.out)⟩
        case measure => simp [intOf]; omega
    · obtain rfl : k = s.size := by omega
      go_wp2
      go_ret
      exact ⟨ret_bool (stB_false fun j hj => hall.out j hj hj).symm, rfl⟩

end Go.Proofs.Ytbgfdeicjaencaa
