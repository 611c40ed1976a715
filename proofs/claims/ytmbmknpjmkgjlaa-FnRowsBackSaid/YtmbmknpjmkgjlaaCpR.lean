/-
  Contract: slices.Compact at rows.
-/
import Derived.Test.YtmbmknpjmkgjlaaRsW
namespace Go.Proofs.Ytmbmknpjmkgjlaa
open Go.RowKit

theorem zeroCells_Bd (n : Nat) : (Builtin.zeroCells #[Value.int .i64 0, .int .i64 0, .int .i64 0, .int .i64 0] n).toList = List.replicate (n * 4) (Value.int .i64 0) := by
  simp only [Builtin.zeroCells]
  apply List.ext_getElem
  · simp
  · intro i h1 h2
    simp only [List.getElem_replicate]
    rcases (by omega : i % 4 = 0 ∨ i % 4 = 1 ∨ i % 4 = 2 ∨ i % 4 = 3) with e | e | e | e <;> simp [e]

theorem clear_Bd {ops : Array Oper} {rest : List Oper} {op : Oper} {a : Act} {w : World} {Q : Exit → Act → World → Prop} (hgd : op.guard = none) (x : Operand)
    (ho : op.op = .call { callee := .builtin .clear, args := #[x], argTypes := #[30] })
    (b o m cp : Nat) (hx : a.eval x = .slice (some ⟨b, o, none⟩) m cp) {n : Nat} {c : Nat → Value} (hH : Has w b n c) (hm : 0 < m) (hle : o + m * 4 ≤ n)
    (h : ∀ w2, Only b w w2 → Has w2 b n (fun j => if o ≤ j ∧ j < o + m * 4 then .int .i64 0 else c j) → wpList Try.prog ops Q rest (a.put op.dst (.tuple #[])) w2) : wpList Try.prog ops Q (op :: rest) a w := by
  refine wpList_plain hgd fun K hK => ?_
  have hst := run_storeCells_cells (P := Try.prog) b o (List.replicate (m * 4) (Value.int .i64 0)) 0 w (fun j hj => by simp at hj; rw [hH.1 _ (by omega)]; rfl) (fun j _ => hH.2.1 _) (fun u hu => by obtain ⟨_, rfl⟩ := List.mem_replicate.1 hu; rfl)
  have hz : ∀ w, (zeroValue 22).run Try.prog w = .ok (.agg #[.int .i64 0, .int .i64 0, .int .i64 0, .int .i64 0]) w := fun w => by kernel_rfl
  have hr : (Builtin.clear_ #[30] op.type #[.slice (some ⟨b, o, none⟩) m cp]).run Try.prog w = .ok (.tuple #[]) (w.setCells b o (List.replicate (m * 4) (Value.int .i64 0))) := by
    obtain ⟨k, rfl⟩ : ∃ k, m = k + 1 := ⟨m - 1, by omega⟩
    simp only [Nat.add_zero] at hst
    simp [Builtin.clear_, run_underlying Try.underlying30, hz, Value.cells, zeroCells_Bd, hst]
  unfold Oper.wp execOp
  simp only [ho, resolve, invoke, builtin, Sem.run_bind, Sem.run_pure, Result.andThen_ok, List.map_toArray, List.map_cons, List.map_nil, hx, hr]
  refine hK _ _ (h _ (only_setCells _ _ _ _) ?_)
  refine (hH.sets (List.replicate (m * 4) (Value.int .i64 0)) (by simpa using hle)).congr fun j _ => ?_
  simp only [List.length_replicate]
  by_cases hj : o ≤ j ∧ j < o + m * 4
  · rw [if_pos hj, if_pos hj]
    have : j - o < m * 4 := by omega
    simp [this]
  · rw [if_neg hj, if_neg hj]

theorem Only.drewN {B : Nat} {w a : World} (h : Only B w a) (n : Nat) : Only B w (a.drewN n) := ⟨h.os, h.tape, h.output, h.size, h.block⟩
theorem Only.drew {B : Nat} {w a : World} (h : Only B w a) : Only B w a.drew := ⟨h.os, h.tape, h.output, h.size, h.block⟩
theorem only_refl (B : Nat) (w : World) : Only B w w := ⟨rfl, rfl, rfl, rfl, fun _ _ => rfl⟩
/-- A row at a place of a block, as a region loads it. -/
def ROf (B o : Nat) (b : Nat → Int) (w' : World) : Prop := w'.rangeAt B o [.int .i64 (b 0), .int .i64 (b 1), .int .i64 (b 2), .int .i64 (b 3)]
theorem ROf.r {B o : Nat} {b : Nat → Int} {w' : World} (h : ROf B o b w') : w'.rangeAt B o [.int .i64 (b 0), .int .i64 (b 1), .int .i64 (b 2), .int .i64 (b 3)] := h
theorem rof_of {w' : World} {B N o p : Nat} {l : List (Nat → Int)} {b : Nat → Int} (h : Has w' B N (rsC l)) (hp : p * 4 + 4 ≤ N) (ho : o = p * 4) (hb : atR l p = b) : ROf B o b w' := by
  subst ho hb; exact rro_of h hp

/-- The list while those that come again are struck: the ones that are kept, then the elder ones. -/
def cmM (l : List (Nat → Int)) (q : Nat) : List (Nat → Int) := cpA eqR (l.take q) ++ l.drop (cpA eqR (l.take q)).length
def kpN (l : List (Nat → Int)) (q : Nat) : Nat := (cpA eqR (l.take q)).length
theorem kpN_le (l : List (Nat → Int)) (q : Nat) : kpN l q ≤ q ∧ kpN l q ≤ l.length := by
  have h := cpA_len (eq := eqR) (l.take q)
  rw [List.length_take] at h
  unfold kpN; omega
theorem cmM_len (l : List (Nat → Int)) (q : Nat) : (cmM l q).length = l.length := by
  have := (kpN_le l q).2
  unfold kpN at this
  rw [cmM, List.length_append, List.length_drop]; omega
theorem cmM_hi {l : List (Nat → Int)} {q p : Nat} (h : kpN l q ≤ p) : atR (cmM l q) p = atR l p := by
  unfold kpN at h
  unfold atR cmM
  rw [List.getD_eq_getElem?_getD, List.getD_eq_getElem?_getD, List.getElem?_append_right h, List.getElem?_drop]
  congr 2
  omega
theorem atL_get {l : List (Nat → Int)} {i : Nat} (h : i < l.length) : l[i]? = some (atR l i) := by
  rw [List.getElem?_eq_getElem h]; simp [atR, h]
theorem cp_yes {l : List (Nat → Int)} {j : Nat} (h : j + 1 < l.length) (he : eqR (atR l (j + 1)) (atR l j) = true) : cpA eqR (l.take (j + 2)) = cpA eqR (l.take (j + 1)) := by
  rw [cpA_snoc l j _ _ (atL_get (by omega)) (atL_get h), if_pos he, List.append_nil]
theorem cp_no {l : List (Nat → Int)} {j : Nat} (h : j + 1 < l.length) (he : eqR (atR l (j + 1)) (atR l j) = false) : cpA eqR (l.take (j + 2)) = cpA eqR (l.take (j + 1)) ++ [atR l (j + 1)] := by
  rw [cpA_snoc l j _ _ (atL_get (by omega)) (atL_get h), if_neg (by rw [he]; exact Bool.false_ne_true)]
theorem kp_yes {l : List (Nat → Int)} {j : Nat} (h : j + 1 < l.length) (he : eqR (atR l (j + 1)) (atR l j) = true) : kpN l (j + 2) = kpN l (j + 1) ∧ cmM l (j + 2) = cmM l (j + 1) := by
  unfold kpN cmM; rw [cp_yes h he]; exact ⟨rfl, rfl⟩
theorem kp_no {l : List (Nat → Int)} {j : Nat} (h : j + 1 < l.length) (he : eqR (atR l (j + 1)) (atR l j) = false) : kpN l (j + 2) = kpN l (j + 1) + 1 := by
  unfold kpN; rw [cp_no h he]; simp
/-- The cells behind a store of the next one that is kept. -/
theorem cm_store {l : List (Nat → Int)} {j o : Nat} (h : j + 1 < l.length) (he : eqR (atR l (j + 1)) (atR l j) = false) :
    (if kpN l (j + 1) * 4 ≤ o ∧ o < kpN l (j + 1) * 4 + 4 then .int .i64 (atR l (j + 1) (o - kpN l (j + 1) * 4)) else rsC (cmM l (j + 1)) o) = rsC (cmM l (j + 2)) o := by
  have hk : (cpA eqR (l.take (j + 1))).length = kpN l (j + 1) := rfl
  have hget : ∀ p, p ≠ kpN l (j + 1) → atR (cmM l (j + 2)) p = atR (cmM l (j + 1)) p := by
    intro p hp
    unfold atR cmM
    rw [cp_no h he]
    simp only [List.getD_eq_getElem?_getD]
    congr 1
    by_cases h1 : p < kpN l (j + 1)
    · rw [List.append_assoc, List.getElem?_append_left (by omega), List.getElem?_append_left (by omega)]
    · rw [List.getElem?_append_right (by simp; omega), List.getElem?_append_right (by omega), List.getElem?_drop, List.getElem?_drop]
      congr 1
      simp; omega
  have hat : atR (cmM l (j + 2)) (kpN l (j + 1)) = atR l (j + 1) := by
    unfold cmM
    rw [cp_no h he]
    show (cpA eqR (l.take (j + 1)) ++ [atR l (j + 1)] ++ _).getD _ _ = _
    rw [List.append_assoc, List.getD_eq_getElem?_getD, List.getElem?_append_right (by omega), hk, Nat.sub_self]
    rfl
  by_cases hin : kpN l (j + 1) * 4 ≤ o ∧ o < kpN l (j + 1) * 4 + 4
  · rw [if_pos hin]
    show _ = Value.int .i64 (atR (cmM l (j + 2)) (o / 4) (o % 4))
    rw [show o / 4 = kpN l (j + 1) by omega, hat, show o - kpN l (j + 1) * 4 = o % 4 by omega]
  · rw [if_neg hin]
    show Value.int .i64 (atR (cmM l (j + 1)) (o / 4) (o % 4)) = Value.int .i64 (atR (cmM l (j + 2)) (o / 4) (o % 4))
    rw [hget _ (by omega)]

end Go.Proofs.Ytmbmknpjmkgjlaa
