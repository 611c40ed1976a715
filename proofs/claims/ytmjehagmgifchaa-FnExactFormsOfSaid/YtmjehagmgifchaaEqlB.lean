/-
  Comparison of boards by '==' and '!='.
-/
import Derived.Test.YtmjehagmgifchaaEql
import Derived.Test.YtmjehagmgifchaaFormMath2
namespace Go.Proofs.Ytmjehagmgifchaa
open Go.RowKit

def rowOf (b : Nat → Int) (i : Nat) : Nat → Int := fun k => b (4 * i + k)
theorem eqB_rows (a b : Nat → Int) : [0, 1, 2, 3].all (fun i => allEq (rowOf a i) (rowOf b i) 4) = eqB a b := by
  rw [Bool.eq_iff_iff, eqB_true, List.all_eq_true]
  constructor
  · intro h p hp
    have h1 := h (p / 4) (by
      rcases (by omega : p / 4 = 0 ∨ p / 4 = 1 ∨ p / 4 = 2 ∨ p / 4 = 3) with e | e | e | e <;> simp [e])
    have h2 := of_decide_eq_true h1 (p % 4) (by omega)
    simp only [rowOf] at h2
    rwa [show 4 * (p / 4) + p % 4 = p by omega] at h2
  · intro h i hi
    have hi4 : i < 4 := by
      simp only [List.mem_cons, List.not_mem_nil, or_false] at hi
      omega
    exact decide_eq_true fun k hk => h _ (by omega)

theorem part_A44 (a : Nat → Int) (i : Nat) (hi : i < 4) (w : World) : (part 22 (#[.int .i64 (a 0), .int .i64 (a 1), .int .i64 (a 2), .int .i64 (a 3), .int .i64 (a 4), .int .i64 (a 5), .int .i64 (a 6), .int .i64 (a 7), .int .i64 (a 8), .int .i64 (a 9), .int .i64 (a 10), .int .i64 (a 11), .int .i64 (a 12), .int .i64 (a 13), .int .i64 (a 14), .int .i64 (a 15)]) (i * 4)).run Try.prog w = .ok (.agg #[.int .i64 ((rowOf a i) 0), .int .i64 ((rowOf a i) 1), .int .i64 ((rowOf a i) 2), .int .i64 ((rowOf a i) 3)]) w := by
  rcases (by omega : i = 0 ∨ i = 1 ∨ i = 2 ∨ i = 3) with rfl | rfl | rfl | rfl <;> kernel_rfl

theorem equalIn_A44 (d : Nat) (a b : Nat → Int) (w : World) : (Op.equalIn (d + 3) 23 (.agg #[.int .i64 (a 0), .int .i64 (a 1), .int .i64 (a 2), .int .i64 (a 3), .int .i64 (a 4), .int .i64 (a 5), .int .i64 (a 6), .int .i64 (a 7), .int .i64 (a 8), .int .i64 (a 9), .int .i64 (a 10), .int .i64 (a 11), .int .i64 (a 12), .int .i64 (a 13), .int .i64 (a 14), .int .i64 (a 15)]) (.agg #[.int .i64 (b 0), .int .i64 (b 1), .int .i64 (b 2), .int .i64 (b 3), .int .i64 (b 4), .int .i64 (b 5), .int .i64 (b 6), .int .i64 (b 7), .int .i64 (b 8), .int .i64 (b 9), .int .i64 (b 10), .int .i64 (b 11), .int .i64 (b 12), .int .i64 (b 13), .int .i64 (b 14), .int .i64 (b 15)])).run Try.prog w = .ok (eqB a b) w := by
  have u := run_underlying (P := Try.prog) Try.underlying23
  have ea := fun i hi w => part_A44 a i hi w
  have eb := fun i hi w => part_A44 b i hi w
  rw [Op.equalIn]
  simp [u]
  rw [run_eqLoop (fun i => allEq (rowOf a i) (rowOf b i) 4) _ (List.range' 0 4) (fun i hi s => by
    have hi4 : i < 4 := by simpa [List.mem_range'] using hi
    simp only [Sem.run_bind, ea i hi4, eb i hi4, Result.andThen_ok, equalIn_A4]
    cases allEq (rowOf a i) (rowOf b i) 4 <;> rfl)]
  have e : (List.range' 0 4).all (fun i => allEq (rowOf a i) (rowOf b i) 4) = eqB a b := eqB_rows a b
  rw [e]
  cases eqB a b <;> rfl

theorem part_Board (a : Nat → Int) (w : World) : (part 23 (#[.int .i64 (a 0), .int .i64 (a 1), .int .i64 (a 2), .int .i64 (a 3), .int .i64 (a 4), .int .i64 (a 5), .int .i64 (a 6), .int .i64 (a 7), .int .i64 (a 8), .int .i64 (a 9), .int .i64 (a 10), .int .i64 (a 11), .int .i64 (a 12), .int .i64 (a 13), .int .i64 (a 14), .int .i64 (a 15)]) 0).run Try.prog w = .ok (.agg #[.int .i64 (a 0), .int .i64 (a 1), .int .i64 (a 2), .int .i64 (a 3), .int .i64 (a 4), .int .i64 (a 5), .int .i64 (a 6), .int .i64 (a 7), .int .i64 (a 8), .int .i64 (a 9), .int .i64 (a 10), .int .i64 (a 11), .int .i64 (a 12), .int .i64 (a 13), .int .i64 (a 14), .int .i64 (a 15)]) w := by kernel_rfl
theorem fields_Board : ∃ f : Field, (Try.prog.fieldsOf 25).toList = [f] ∧ f.name ≠ "_" ∧ f.type = 23 ∧ f.offset = 0 := by
  unfold Program.fieldsOf
  rw [Try.underlying25]
  exact ⟨_, rfl, by decide, rfl, rfl⟩
theorem equalIn_Board (d : Nat) (a b : Nat → Int) (w : World) : (Op.equalIn (d + 4) 25 (.agg #[.int .i64 (a 0), .int .i64 (a 1), .int .i64 (a 2), .int .i64 (a 3), .int .i64 (a 4), .int .i64 (a 5), .int .i64 (a 6), .int .i64 (a 7), .int .i64 (a 8), .int .i64 (a 9), .int .i64 (a 10), .int .i64 (a 11), .int .i64 (a 12), .int .i64 (a 13), .int .i64 (a 14), .int .i64 (a 15)]) (.agg #[.int .i64 (b 0), .int .i64 (b 1), .int .i64 (b 2), .int .i64 (b 3), .int .i64 (b 4), .int .i64 (b 5), .int .i64 (b 6), .int .i64 (b 7), .int .i64 (b 8), .int .i64 (b 9), .int .i64 (b 10), .int .i64 (b 11), .int .i64 (b 12), .int .i64 (b 13), .int .i64 (b 14), .int .i64 (b 15)])).run Try.prog w = .ok (eqB a b) w := by
  obtain ⟨f, hf, hn, ht, ho⟩ := fields_Board
  rw [run_equalIn_struct w (d + 3) 25 _ _ (by kernel_rfl) (by kernel_rfl), hf]
  simp only [Op.eqFields, hn, ht, ho, Sem.run_bind, part_Board, Result.andThen_ok, equalIn_A44, ne_eq, not_false_eq_true, if_true]
  cases eqB a b <;> rfl
theorem run_eql_Board (a b : Nat → Int) (w : World) : (binOp .eql 25 (.agg #[.int .i64 (a 0), .int .i64 (a 1), .int .i64 (a 2), .int .i64 (a 3), .int .i64 (a 4), .int .i64 (a 5), .int .i64 (a 6), .int .i64 (a 7), .int .i64 (a 8), .int .i64 (a 9), .int .i64 (a 10), .int .i64 (a 11), .int .i64 (a 12), .int .i64 (a 13), .int .i64 (a 14), .int .i64 (a 15)]) (.agg #[.int .i64 (b 0), .int .i64 (b 1), .int .i64 (b 2), .int .i64 (b 3), .int .i64 (b 4), .int .i64 (b 5), .int .i64 (b 6), .int .i64 (b 7), .int .i64 (b 8), .int .i64 (b 9), .int .i64 (b 10), .int .i64 (b 11), .int .i64 (b 12), .int .i64 (b 13), .int .i64 (b 14), .int .i64 (b 15)])).run Try.prog w = .ok (.bool (eqB a b)) w := by
  rw [run_eql_struct]
  rw [show (10000 : Nat) = 9996 + 4 from rfl, equalIn_Board]; rfl
theorem run_neq_Board (a b : Nat → Int) (w : World) : (binOp .neq 25 (.agg #[.int .i64 (a 0), .int .i64 (a 1), .int .i64 (a 2), .int .i64 (a 3), .int .i64 (a 4), .int .i64 (a 5), .int .i64 (a 6), .int .i64 (a 7), .int .i64 (a 8), .int .i64 (a 9), .int .i64 (a 10), .int .i64 (a 11), .int .i64 (a 12), .int .i64 (a 13), .int .i64 (a 14), .int .i64 (a 15)]) (.agg #[.int .i64 (b 0), .int .i64 (b 1), .int .i64 (b 2), .int .i64 (b 3), .int .i64 (b 4), .int .i64 (b 5), .int .i64 (b 6), .int .i64 (b 7), .int .i64 (b 8), .int .i64 (b 9), .int .i64 (b 10), .int .i64 (b 11), .int .i64 (b 12), .int .i64 (b 13), .int .i64 (b 14), .int .i64 (b 15)])).run Try.prog w = .ok (.bool (!eqB a b)) w := by
  rw [run_neq_struct]
  rw [show (10000 : Nat) = 9996 + 4 from rfl, equalIn_Board]; rfl

end Go.Proofs.Ytmjehagmgifchaa
