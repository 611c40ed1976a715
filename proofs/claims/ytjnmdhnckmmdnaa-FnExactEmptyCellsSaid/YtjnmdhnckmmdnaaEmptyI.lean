/-
  Contract: the empty cells, as the program lists them.
-/
import Derived.Test.YtjnmdhnckmmdnaaEmptyS
import Derived.Test.YtjnmdhnckmmdnaaPlWords
import Derived.Test.YtjnmdhnckmmdnaaTkWords
import Derived.Test.YtjnmdhnckmmdnaaTiles
namespace Go.Proofs.Ytjnmdhnckmmdnaa
open Go.RowKit

theorem zeroCells_A2 (n : Nat) : (Builtin.zeroCells #[Value.int .i64 0, .int .i64 0] n).toList = List.replicate (n * 2) (Value.int .i64 0) := by
  simp only [Builtin.zeroCells]
  apply List.ext_getElem
  · simp
  · intro i h1 h2
    simp only [List.getElem_replicate]
    rcases (by omega : i % 2 = 0 ∨ i % 2 = 1) with e | e <;> simp [e]

/-- clear of a slice of cells out of a block that is known. -/
theorem clear_A2 {ops : Array Oper} {rest : List Oper} {op : Oper} {a : Act} {w : World} {Q : Exit → Act → World → Prop} (hgd : op.guard = none) (x : Operand)
    (ho : op.op = .call { callee := .builtin .clear, args := #[x], argTypes := #[53] })
    (b o m cp : Nat) (hx : a.eval x = .slice (some ⟨b, o, none⟩) m cp) {n : Nat} {c : Nat → Value} (hH : Has w b n c) (hm : 0 < m) (hle : o + m * 2 ≤ n)
    (h : ∀ w2, Only b w w2 → Has w2 b n (fun j => if o ≤ j ∧ j < o + m * 2 then .int .i64 0 else c j) → wpList Try.prog ops Q rest (a.put op.dst (.tuple #[])) w2) : wpList Try.prog ops Q (op :: rest) a w := by
  refine wpList_plain hgd fun K hK => ?_
  have hst := run_storeCells_cells (P := Try.prog) b o (List.replicate (m * 2) (Value.int .i64 0)) 0 w (fun j hj => by simp at hj; rw [hH.1 _ (by omega)]; rfl) (fun j _ => hH.2.1 _) (fun u hu => by obtain ⟨_, rfl⟩ := List.mem_replicate.1 hu; rfl)
  have hz : ∀ w, (zeroValue 39).run Try.prog w = .ok (.agg #[.int .i64 0, .int .i64 0]) w := fun w => by kernel_rfl
  have hr : (Builtin.clear_ #[53] op.type #[.slice (some ⟨b, o, none⟩) m cp]).run Try.prog w = .ok (.tuple #[]) (w.setCells b o (List.replicate (m * 2) (Value.int .i64 0))) := by
    obtain ⟨k, rfl⟩ : ∃ k, m = k + 1 := ⟨m - 1, by omega⟩
    simp only [Nat.add_zero] at hst
    simp [Builtin.clear_, run_underlying Try.underlying53, hz, Value.cells, zeroCells_A2, hst]
  unfold Oper.wp execOp
  simp only [ho, resolve, invoke, builtin, Sem.run_bind, Sem.run_pure, Result.andThen_ok, List.map_toArray, List.map_cons, List.map_nil, hx, hr]
  refine hK _ _ (h _ (only_setCells _ _ _ _) ?_)
  refine (hH.sets (List.replicate (m * 2) (Value.int .i64 0)) (by simpa using hle)).congr fun j _ => ?_
  simp only [List.length_replicate]
  by_cases hj : o ≤ j ∧ j < o + m * 2
  · rw [if_pos hj, if_pos hj]
    have : j - o < m * 2 := by omega
    simp [this]
  · rw [if_neg hj, if_neg hj]

def DfP (b D : Nat → Int) (i j : Nat) : Prop := i = (emL b j).length ∧ (∀ o, o < i → D (o * 2) = (((emL b j).getD o 0 / 4 : Nat) : Int) ∧ D (o * 2 + 1) = (((emL b j).getD o 0 % 4 : Nat) : Int)) ∧ ∀ o, j ≤ o → D (o * 2) = ((o / 4 : Nat) : Int) ∧ D (o * 2 + 1) = ((o % 4 : Nat) : Int)
theorem emL_all {b : Nat → Int} : ∀ {k : Nat}, (∀ j, j < k → b j = 0) → emL b k = List.range k
  | 0, _ => rfl
  | k + 1, h => by rw [emL_succ, if_pos (h k (by omega)), emL_all fun j hj => h j (by omega), List.range_succ]
theorem cellC_even (o : Nat) : cellC (o * 2) = ((o / 4 : Nat) : Int) := by unfold cellC; rw [if_pos (by omega)]; congr 1; omega
theorem cellC_odd (o : Nat) : cellC (o * 2 + 1) = ((o % 4 : Nat) : Int) := by unfold cellC; rw [if_neg (by omega)]; congr 1; omega
theorem DfP.start {b : Nat → Int} {k : Nat} (h : ∀ j, j < k → b j = 0) (hz : b k ≠ 0) : DfP b cellC k (k + 1) := by
  have e : emL b (k + 1) = List.range k := by rw [emL_succ, if_neg hz, emL_all h]
  refine ⟨by rw [e]; simp, fun o ho => ?_, fun o _ => ⟨cellC_even o, cellC_odd o⟩⟩
  rw [e]
  simp [ho, cellC_even, cellC_odd]
theorem DfP.drop {b D : Nat → Int} {i j : Nat} (h : DfP b D i j) (hz : b j ≠ 0) : DfP b D i (j + 1) := by
  have e : emL b (j + 1) = emL b j := by rw [emL_succ, if_neg hz]
  exact ⟨by rw [e]; exact h.1, by rw [e]; exact h.2.1, fun o ho => h.2.2 o (by omega)⟩
theorem DfP.keep {b D : Nat → Int} {i j : Nat} (h : DfP b D i j) (hz : b j = 0) : DfP b (fun q => if q = i * 2 then D (j * 2) else if q = i * 2 + 1 then D (j * 2 + 1) else D q) (i + 1) (j + 1) := by
  have e : emL b (j + 1) = emL b j ++ [j] := by rw [emL_succ, if_pos hz]
  have hij : i ≤ j := by rw [h.1]; exact emL_len b j
  have hj := h.2.2 j (Nat.le_refl _)
  refine ⟨by rw [e, List.length_append, ← h.1]; rfl, fun o ho => ?_, fun o ho => ?_⟩
  · rw [e]
    by_cases ho2 : o = i
    · subst ho2
      simp [h.1] at hj ⊢
      exact hj
    · have h3 : o < i := by omega
      have h4 : o < (emL b j).length := by rw [← h.1]; exact h3
      have h5 := h.2.1 o h3
      simp only [show ¬ o * 2 = i * 2 by omega, show ¬ o * 2 = i * 2 + 1 by omega, show ¬ o * 2 + 1 = i * 2 by omega, show ¬ o * 2 + 1 = i * 2 + 1 by omega, if_false]
      simp only [List.getD, List.getElem?_append_left h4] at h5 ⊢
      exact h5
  · simp only [show ¬ o * 2 = i * 2 by omega, show ¬ o * 2 = i * 2 + 1 by omega, show ¬ o * 2 + 1 = i * 2 by omega, show ¬ o * 2 + 1 = i * 2 + 1 by omega, if_false]
    exact h.2.2 o (by omega)

set_option maxHeartbeats 2000000 in
theorem del_any (b : Nat → Int) (B0 p : Nat) (hp : p < 16) (x y : Int) (hx0 : 0 ≤ x) (hx3 : x < 4) (hy0 : 0 ≤ y) (hy3 : y < 4) (hxy : Hid (x.toNat * 4 + y.toNat = p)) (w : World) (hH : Has w B0 16 (fun o => .int .i64 (b o))) :
    Calls Try.prog 144 #[.agg #[.int .i64 x, .int .i64 y], .pointer (some ⟨B0, 0, none⟩)] w fun e w' => e = .returned (.bool (b p != 0)) ∧ Below w.heap.size w w' := by
  have i9 := hH
  have hB : Below w.heap.size w w := Below.refl _ _
  have zi9 := i9.2.2
  clear hH
  go_enter Try.func144, Try.ntmps144
  go_wp2_with (first | (go_at_call 93; (with_reducible refine (at_xy _ _ _ _ hx0 hx3 hy0 hy3 hxy _).mono ?_); rintro e w2 ⟨rfl, hb2⟩; have hB' : Below w.heap.size w w2 := below_go (by repeat (first | (with_reducible exact Below.refl _ _) | (with_reducible assumption) | (with_reducible refine below_go ?_ (by with_reducible assumption)) | (with_reducible refine below_new ?_ _) | ((with_reducible refine below_put ?_ ?_ _); rotate_left; (dsimp only; omega)) | (with_reducible refine Below.drew ?_) | (with_reducible refine below_dn ?_ _))) hb2; have i9' : Has w2 (B0) 16 _ := Has.call (by repeat (first | (with_reducible assumption) | (with_reducible apply Has.set) | ((with_reducible apply Has.other); (case hne => (dsimp only; omega))) | (with_reducible apply Has.alloc) | (with_reducible apply Has.drew) | (with_reducible apply Has.drewN))) hb2; clear hB hb2; have hB := hB'; clear hB'; (try clear fi9); (try clear zi9); (try clear ci9); clear i9; have i9 := i9'; clear i9'; have ci9 := i9.1; have fi9 := i9.2.1; have zi9 := i9.2.2) | (refine load_int rfl _ rfl _ _ rfl (by repeat (first | (with_reducible assumption) | (with_reducible apply Has.set) | ((with_reducible apply Has.other); (case hne => (dsimp only; omega))) | (with_reducible apply Has.alloc) | (with_reducible apply Has.drew) | (with_reducible apply Has.drewN))) (by omega) ?_))
  go_ret
  exact ⟨rfl, (by repeat (first | (with_reducible exact Below.refl _ _) | (with_reducible assumption) | (with_reducible refine below_go ?_ (by with_reducible assumption)) | (with_reducible refine below_new ?_ _) | ((with_reducible refine below_put ?_ ?_ _); rotate_left; (dsimp only; omega)) | (with_reducible refine Below.drew ?_) | (with_reducible refine below_dn ?_ _)))⟩

set_option maxHeartbeats 4000000 in
theorem indexDel_any (b : Nat → Int) (B0 g n cap : Nat) (hn : n = 16) (w : World) (hH : Has w B0 16 (fun o => .int .i64 (b o))) (hC : Has w g 32 (fun p => .int .i64 (cellC p))) :
    Calls Try.prog 155 #[.slice (some ⟨g, 0, none⟩) n cap, .func (.func 144) #[] #[.pointer (some ⟨B0, 0, none⟩)]] w fun e w' => ∃ i, e = .returned (.int .i64 i) ∧ ((i = -1 ∧ ∀ j, j < 16 → b j = 0) ∨ ∃ k : Nat, k < 16 ∧ i = k ∧ b k ≠ 0 ∧ ∀ j, j < k → b j = 0) ∧ Below w.heap.size w w' := by
  subst hn
  have H1 := hide hH
  have H2 := hide hC
  clear hH hC
  have hB : Below w.heap.size w w := Below.refl _ _
  go_enter Try.func155, Try.ntmps155
  go_wp2
  go_loopw [8] (fun v wr => ∃ k : Nat, k ≤ 16 ∧ v = .int .i64 k ∧ Hid (∀ j, j < k → b j = 0) ∧ Below w.heap.size w wr) (fun i _ => 16 - (intOf i).toNat)
  case atStart => exact ⟨0, Nat.zero_le _, rfl, hide (fun j hj => absurd hj (Nat.not_lt_zero _)), hB⟩
  case round =>
    clear hB
    obtain ⟨k, hk, rfl, hall, hB⟩ := hrel
    by_cases hlt : k < 16
    · have i9 := H1.out.call hB
      have iC := H2.out.call hB
      have hB0 := H1.out.2.2
      obtain ⟨x, y, hx0, hx3, hy0, hy3, _, hxy, q1, q2⟩ := cell_xy iC hlt
      clear iC
      by_cases hz : b k = 0
      · have hz' : (b k != 0) = false := by simpa using hz
        have HZ := hide hz
        clear hz
        go_wp2_with ((go_at_call 144); (refine (del_any b B0 k hlt x y hx0 hx3 hy0 hy3 hxy _ i9).mono ?_); rintro e w2 ⟨rfl, hb2⟩)
        go_roundw
        case rel => exact ⟨k + 1, by omega, by go_num, hide (all_succ hall.out HZ.out), below_go hB hb2⟩
        case measure => simp [intOf]; omega
      · have hz' : (b k != 0) = true := by simpa using hz
        have HZ := hide hz
        clear hz
        go_wp2_with ((go_at_call 144); (refine (del_any b B0 k hlt x y hx0 hx3 hy0 hy3 hxy _ i9).mono ?_); rintro e w2 ⟨rfl, hb2⟩)
        go_ret
        exact ⟨_, rfl, .inr ⟨k, hlt, rfl, HZ.out, hall.out⟩, below_go hB hb2⟩
    · obtain rfl : k = 16 := by omega
      go_wp2
      go_ret
      exact ⟨_, rfl, .inl ⟨rfl, hall.out⟩, hB⟩

end Go.Proofs.Ytjnmdhnckmmdnaa
