/-
  Contract: the tiles of a row (slices.Clone, slices.DeleteFunc).
-/
import Derived.Test.YtmbmknpjmkgjlaaSl
import Derived.Test.YtmbmknpjmkgjlaaSlideMath
import Derived.Lib.SliceRun
namespace Go.Proofs.Ytmbmknpjmkgjlaa
open Go.RowKit

theorem zeroCells_int (n : Nat) : (Builtin.zeroCells #[Value.int .i64 0] n).toList = List.replicate n (Value.int .i64 0) := by
  simp only [Builtin.zeroCells]
  apply List.ext_getElem
  · simp
  · intro i h1 h2
    simp [Nat.mod_one]

/-- clear of a slice of whole numbers out of a block that is known. -/
theorem clear_int {ops : Array Oper} {rest : List Oper} {op : Oper} {a : Act} {w : World} {Q : Exit → Act → World → Prop} (hgd : op.guard = none) (x : Operand)
    (ho : op.op = .call { callee := .builtin .clear, args := #[x], argTypes := #[54] })
    (b o m cp : Nat) (hx : a.eval x = .slice (some ⟨b, o, none⟩) m cp) {n : Nat} {c : Nat → Value} (hH : Has w b n c) (hm : 0 < m) (hle : o + m ≤ n)
    (h : ∀ w2, Only b w w2 → Has w2 b n (fun j => if o ≤ j ∧ j < o + m then .int .i64 0 else c j) → wpList Try.prog ops Q rest (a.put op.dst (.tuple #[])) w2) : wpList Try.prog ops Q (op :: rest) a w := by
  refine wpList_plain hgd fun K hK => ?_
  have hst := run_storeCells_cells (P := Try.prog) b o (List.replicate m (Value.int .i64 0)) 0 w (fun j hj => by simp at hj; rw [hH.1 _ (by omega)]; rfl) (fun j _ => hH.2.1 _) (fun u hu => by obtain ⟨_, rfl⟩ := List.mem_replicate.1 hu; rfl)
  have hz : ∀ w, (zeroValue 3).run Try.prog w = .ok (.int .i64 0) w := fun w => by kernel_rfl
  have hr : (Builtin.clear_ #[54] op.type #[.slice (some ⟨b, o, none⟩) m cp]).run Try.prog w = .ok (.tuple #[]) (w.setCells b o (List.replicate m (Value.int .i64 0))) := by
    obtain ⟨k, rfl⟩ : ∃ k, m = k + 1 := ⟨m - 1, by omega⟩
    simp only [Nat.add_zero] at hst
    simp [Builtin.clear_, run_underlying Try.underlying54, hz, Value.cells, zeroCells_int, hst]
  unfold Oper.wp execOp
  simp only [ho, resolve, invoke, builtin, Sem.run_bind, Sem.run_pure, Result.andThen_ok, List.map_toArray, List.map_cons, List.map_nil, hx, hr]
  refine hK _ _ (h _ (only_setCells _ _ _ _) ?_)
  refine (hH.sets (List.replicate m (Value.int .i64 0)) (by simpa using hle)).congr fun j _ => ?_
  simp only [List.length_replicate]
  by_cases hj : o ≤ j ∧ j < o + m
  · rw [if_pos hj, if_pos hj]
    have : j - o < m := by omega
    simp [this]
  · rw [if_neg hj, if_neg hj]

theorem all_succ {p : Nat → Prop} {k : Nat} (h : ∀ j, j < k → p j) (hk : p k) : ∀ j, j < k + 1 → p j := by
  intro j hj
  rcases Nat.lt_or_ge j k with h1 | h1
  · exact h j h1
  · obtain rfl : j = k := by omega
    exact hk

/-- The numbers among the first j that are not 0. -/
def kept (c : Nat → Int) (j : Nat) : List Int := ((List.range j).map c).filter fun t => !decide (t = 0)
theorem kept_succ (c : Nat → Int) (j : Nat) : kept c (j + 1) = if c j = 0 then kept c j else kept c j ++ [c j] := by
  unfold kept
  rw [List.range_succ, List.map_append, List.filter_append]
  by_cases h : c j = 0 <;> simp [h]
theorem kept_len (c : Nat → Int) (j : Nat) : (kept c j).length ≤ j := by
  have := List.length_filter_le (fun t => !decide (t = 0)) ((List.range j).map c)
  simpa [kept] using this
theorem kept_all {c : Nat → Int} {k : Nat} (h : ∀ j, j < k → c j ≠ 0) : kept c k = (List.range k).map c := by
  unfold kept
  rw [List.filter_eq_self]
  intro t ht
  obtain ⟨j, hj, rfl⟩ := List.mem_map.1 ht
  simpa using h j (List.mem_range.1 hj)
theorem kept_zero {c : Nat → Int} {k : Nat} (h : ∀ j, j < k → c j ≠ 0) (hz : c k = 0) : kept c (k + 1) = (List.range k).map c := by
  rw [kept_succ, if_pos hz, kept_all h]

def Fz (c : Nat → Int) (n : Nat) (i : Int) : Prop := (i = -1 ∧ ∀ j, j < n → c j ≠ 0) ∨ ∃ k : Nat, k < n ∧ i = k ∧ c k = 0 ∧ ∀ j, j < k → c j ≠ 0

theorem tile0_any (n : Int) (w : World) : Calls Try.prog 81 #[.int .i64 n] w fun e w' => e = .returned (.bool (n == 0)) ∧ w = w' := by
  go_enter Try.func81, Try.ntmps81
  go_wp2
  go_ret
  exact ⟨rfl, rfl⟩

set_option maxHeartbeats 2000000 in
theorem indexFunc0_any (g n cap N : Nat) (c : Nat → Int) (w : World) (hH : Has w g N (fun i => .int .i64 (c i))) (hle : n ≤ N) (hn : n ≤ 65536) :
    Calls Try.prog 83 #[.slice (some ⟨g, 0, none⟩) n cap, .func (.func 81) #[] #[]] w fun e w' => ∃ i, e = .returned (.int .i64 i) ∧ Fz c n i ∧ w = w' := by
  have hc := hH.1; have hf := hH.2.1
  have HH := hide hH
  clear hH
  go_enter Try.func83, Try.ntmps83
  go_wp2
  go_loop [5, 8] (fun _ i => ∃ k : Nat, k ≤ n ∧ i = .int .i64 k ∧ Hid (∀ j, j < k → c j ≠ 0)) (fun _ i => n - (intOf i).toNat)
  case atStart => exact ⟨0, Nat.zero_le _, rfl, hide (fun j hj => absurd hj (Nat.not_lt_zero _))⟩
  case round =>
    obtain ⟨k, hk, rfl, hall⟩ := hrel
    by_cases hlt : k < n
    · have hltN : k < N := by omega
      by_cases hz : c k = 0
      · have hz' : (c k == 0) = true := by simpa using hz
        have HZ := hide hz
        clear hz
        go_wp2_with ((go_at_call 81); (refine (tile0_any _ _).mono ?_); rintro e w' ⟨rfl, rfl⟩)
        go_ret
        exact ⟨_, rfl, .inr ⟨k, hlt, rfl, HZ.out, hall.out⟩, rfl⟩
      · have hz' : (c k == 0) = false := by simpa using hz
        have HZ := hide hz
        clear hz
        go_wp2_with ((go_at_call 81); (refine (tile0_any _ _).mono ?_); rintro e w' ⟨rfl, rfl⟩)
        go_round
        case rel => exact ⟨k + 1, by omega, by go_num, hide (all_succ hall.out HZ.out)⟩
        case measure => simp [intOf]; omega
    · obtain rfl : k = n := by omega
      go_wp2
      go_ret
      exact ⟨_, rfl, .inl ⟨rfl, hall.out⟩, rfl⟩

/-- The row of slices.DeleteFunc behind j elements: what was kept, then whatever, then what is still to come. -/
def DfS (c d : Nat → Int) (i j : Nat) : Prop := i = (kept c j).length ∧ (∀ o, o < i → d o = (kept c j).getD o 0) ∧ ∀ o, j ≤ o → d o = c o

theorem DfS.start {c : Nat → Int} {k : Nat} (h : ∀ j, j < k → c j ≠ 0) (hz : c k = 0) : DfS c c k (k + 1) := by
  refine ⟨by simp [kept_zero h hz], fun o ho => ?_, fun _ _ => rfl⟩
  rw [kept_zero h hz]
  simp [ho]
theorem DfS.drop {c d : Nat → Int} {i j : Nat} (h : DfS c d i j) (hz : d j = 0) : DfS c d i (j + 1) := by
  have hz' : c j = 0 := by rw [← h.2.2 j (Nat.le_refl _)]; exact hz
  refine ⟨by rw [kept_succ, if_pos hz']; exact h.1, by rw [kept_succ, if_pos hz']; exact h.2.1, fun o ho => h.2.2 o (by omega)⟩
theorem DfS.keep {c d : Nat → Int} {i j : Nat} (h : DfS c d i j) (hz : d j ≠ 0) : DfS c (fun o => if o = i then d j else d o) (i + 1) (j + 1) := by
  have e := h.2.2 j (Nat.le_refl _)
  have hz' : c j ≠ 0 := by rw [← e]; exact hz
  have hij : i ≤ j := by rw [h.1]; exact kept_len c j
  refine ⟨by rw [kept_succ, if_neg hz', List.length_append, ← h.1]; rfl, fun o ho => ?_, fun o ho => ?_⟩
  · rw [kept_succ, if_neg hz']
    by_cases ho2 : o = i
    · subst ho2
      simp [h.1, e]
    · have h3 : o < i := by omega
      have h4 : o < (kept c j).length := by rw [← h.1]; exact h3
      simp only [ho2, if_false]
      rw [h.2.1 o h3]
      simp [List.getD, List.getElem?_append_left h4]
  · have : o ≠ i := by omega
    simp only [this, if_false]
    exact h.2.2 o (by omega)

set_option maxHeartbeats 4000000 in
theorem deleteFunc0_any (g n cap : Nat) (c : Nat → Int) (w : World) (hH : Has w g n (fun i => .int .i64 (c i))) (hn : n ≤ 65536) (hcap : n ≤ cap) :
    Calls Try.prog 79 #[.slice (some ⟨g, 0, none⟩) n cap, .func (.func 81) #[] #[]] w fun e w' =>
      e = .returned (.slice (some ⟨g, 0, none⟩) (kept c n).length cap) ∧ Only g w w' ∧ Has w' g (kept c n).length (fun i => .int .i64 ((kept c n).getD i 0)) := by
  have hI := fun w' hH' => indexFunc0_any g n cap n c w' hH' (Nat.le_refl _) hn
  have HI := hide (hI w hH)
  clear hI
  have HH := hide hH
  clear hH
  go_enter Try.func79, Try.ntmps79
  go_wp2_with fail
  refine HI.out.mono ?_
  rintro e w' ⟨i, rfl, hfz, rfl⟩
  rcases hfz with ⟨rfl, hall⟩ | ⟨k, hk, rfl, hz, hall⟩
  · have HA := hide hall
    clear hall
    go_wp2
    go_ret
    have e : kept c n = (List.range n).map c := kept_all HA.out
    refine ⟨by rw [e]; simp, ⟨rfl, rfl, rfl, rfl, fun _ _ => rfl⟩, ?_⟩
    rw [e]
    simp only [List.length_map, List.length_range]
    exact HH.out.congr fun o ho => by simp [ho]
  · have hs := DfS.start hall hz
    have HS := hide hs
    clear hs hz hall HI
    have hk1 : ((k : Int) == -1) = false := beq_eq_false_iff_ne.2 (by omega)
    go_wp2
    clear hk1
    go_loopw [5, 6] (fun v5 v6 wr => ∃ (i j : Nat) (d : Nat → Int), v5 = .int .i64 i ∧ v6 = .int .i64 j ∧ i < j ∧ j ≤ n ∧ Hid (DfS c d i j) ∧ Only g w wr ∧ Has wr g n (fun o => .int .i64 (d o))) (fun _ j _ => n - (intOf j).toNat)
    case atStart => exact ⟨k, k + 1, c, rfl, by go_num, by omega, by omega, HS, ⟨rfl, rfl, rfl, rfl, fun _ _ => rfl⟩, HH.out⟩
    case round =>
      obtain ⟨i, j, d, rfl, rfl, hij, hjn, HD, hO, i0⟩ := hrel
      have ci0 := i0.1; have fi0 := i0.2.1; have zi0 := i0.2.2
      by_cases hlt : j < n
      · by_cases hz : d j = 0
        · have hz' : (d j == 0) = true := by simpa using hz
          have HZ := hide hz
          clear hz
          go_wp2_with ((go_at_call 81); (refine (tile0_any _ _).mono ?_); rintro e w' ⟨rfl, rfl⟩)
          go_roundw
          case rel => exact ⟨i, j + 1, d, rfl, by go_num, by omega, by omega, hide (HD.out.drop HZ.out), hO, i0⟩
          case measure => simp [intOf]; omega
        · have hz' : (d j == 0) = false := by simpa using hz
          have HZ := hide hz
          clear hz
          have hin : i < n := by omega
          go_wp2_with (first | ((go_at_call 81); (refine (tile0_any _ _).mono ?_); rintro e w' ⟨rfl, rfl⟩) | (refine store_int rfl _ _ rfl _ _ _ rfl rfl i0 (by omega) ?_; intro w3 ho3 hn3; have hO' := hO.trans ho3))
          go_roundw
          case rel => exact ⟨i + 1, j + 1, (fun o => if o = i then d j else d o), by go_num, by go_num, by omega, by omega, hide (HD.out.keep HZ.out), hO', hn3.congr fun o _ => ite_int _ _ _⟩
          case measure => simp [intOf]; omega
      · obtain rfl : j = n := by omega
        have hcap' : i < cap := by omega
        go_wp2_with (refine clear_int rfl _ rfl _ _ _ _ rfl i0 (by omega) (by omega) ?_; intro w3 ho3 hn3; have hO' := hO.trans ho3)
        go_ret
        have e := HD.out.1
        refine ⟨by rw [← e]; rfl, hO', ?_⟩
        rw [← e]
        refine ⟨fun o ho => ?_, hn3.2⟩
        rw [hn3.1 o (by omega)]
        simp only []
        rw [if_neg (by omega), HD.out.2.1 o ho]
        rfl

set_option maxHeartbeats 2000000 in
theorem tiles_any (r : Nat → Int) (w : World) : Calls Try.prog 57 #[.agg #[.int .i64 (r 0), .int .i64 (r 1), .int .i64 (r 2), .int .i64 (r 3)]] w fun e w' => ∃ A cap, e = .returned (.slice A (tilesL r).length cap) ∧ Sl w' w.heap.size A (tilesL r).length (fun i => .int .i64 ((tilesL r).getD i 0)) ∧ Below w.heap.size w w' := by
  go_enter Try.func57, Try.ntmps57
  go_wp2_with fail
  generalize hW : w.alloc _ = w1
  have hB : Below w.heap.size w w1 := by (rw [← hW]; exact (by repeat (first | (with_reducible exact Below.refl _ _) | (with_reducible assumption) | (with_reducible refine below_go ?_ (by with_reducible assumption)) | (with_reducible refine below_new ?_ _) | ((with_reducible refine below_put ?_ ?_ _); rotate_left; (dsimp only; omega)) | (with_reducible refine Below.drew ?_) | (with_reducible refine below_dn ?_ _))))
  have i0 : Has w1 (w.heap.size) 4 (fun o => .int .i64 (r o)) := by (rw [← hW]; repeat (first | (refine Has.new ?_ rfl; simp; done) | refine Has.alloc ?_ _))
  have ci0 := i0.1; have fi0 := i0.2.1; have zi0 := i0.2.2
  clear hW
  refine (clone_any w.heap.size 0 4 4 4 r w1 i0 (by omega) (by omega)).mono ?_
  rintro e w2 ⟨v, rfl, hown, hb2⟩
  obtain ⟨A, cap, rfl, hcap, hS⟩ := own_sl hown
  obtain ⟨g, rfl, hg, hH⟩ := hS (by omega)
  have hg' : w.heap.size ≤ g := by have := hB.size; omega
  have hB2 := below_go hB hb2
  clear hown hb2 hB ci0 fi0 zi0 i0 hS hg
  have hH2 := hH.congr (d := fun o => .int .i64 (r o)) (fun o ho => by simp [ho])
  have H2 := hide hH2
  clear hH hH2
  go_wp2_with fail
  refine (deleteFunc0_any g 4 cap r w2 H2.out (by omega) hcap).mono ?_
  rintro e w3 ⟨rfl, ho, hH3⟩
  go_wp2
  go_ret
  exact ⟨_, _, rfl, fun _ => ⟨g, rfl, hg', hH3⟩, below_only hB2 ho hg'⟩

end Go.Proofs.Ytmbmknpjmkgjlaa
