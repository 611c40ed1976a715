/-
  Words for SlideCycle: the boards that have been seen; the first that comes again.
-/
import Derived.Test.YtjnmdhnckmmdnaaEqlB
import Derived.Test.YtjnmdhnckmmdnaaCycleMath
import Derived.Test.YtjnmdhnckmmdnaaOwn
import Derived.Test.YtjnmdhnckmmdnaaStc
namespace Go.Proofs.Ytjnmdhnckmmdnaa
open Go.RowKit

/-- Least number with a property. -/
theorem least {p : Nat → Prop} (h : ∃ n, p n) : ∃ n, p n ∧ ∀ m, m < n → ¬ p m := by
  obtain ⟨n, hn⟩ := h
  induction n using Nat.strongRecOn with
  | ind n ih =>
    by_cases hm : ∃ m, m < n ∧ p m
    · obtain ⟨m, h1, h2⟩ := hm
      exact ih m h1 h2
    · exact ⟨n, hn, fun m h1 h2 => hm ⟨m, h1, h2⟩⟩
/-- Board K is the first that comes again; it stood at I. -/
def Cyc (f : Nat → Nat → Int) (K I : Nat) : Prop := I < K ∧ K ≤ cycN ∧ eqB (f I) (f K) = true ∧ (∀ i, i < I → eqB (f i) (f K) = false) ∧ ∀ k, k < K → ∀ i, i < k → eqB (f i) (f k) = false
theorem cyc_of {l : List Nat} (hl : ∀ d, d ∈ l → d < 4) {b : Nat → Int} (hb : In17 b 16) : ∃ K I, Cyc (itL b l) K I := by
  obtain ⟨i0, j0, h1, h2, h3⟩ := cycles hl hb
  obtain ⟨K, ⟨i1, hi1, he1⟩, hK⟩ := least (p := fun k => ∃ i, i < k ∧ eqB (itL b l i) (itL b l k) = true) ⟨j0, i0, h1, eqB_true.2 h3⟩
  obtain ⟨I, ⟨hI, heI⟩, hI2⟩ := least (p := fun i => i < K ∧ eqB (itL b l i) (itL b l K) = true) ⟨i1, hi1, he1⟩
  refine ⟨K, I, hI, ?_, heI, fun i hi => ?_, fun k hk i hi => ?_⟩
  · exact Nat.le_trans (Nat.le_of_not_lt fun h => hK j0 h ⟨i0, h1, eqB_true.2 h3⟩) h2
  · exact Bool.eq_false_iff.2 fun h => hI2 i hi ⟨by omega, h⟩
  · exact Bool.eq_false_iff.2 fun h => hK k hk ⟨i, hi, h⟩
theorem cyc_not {f : Nat → Nat → Int} {K I k : Nat} (h : Cyc f K I) (hk : ∀ i, i < k → eqB (f i) (f k) = false) (hle : k ≤ K) : k < K := by
  rcases Nat.lt_or_eq_of_le hle with h1 | h1
  · exact h1
  · subst h1
    have := hk I h.1
    rw [h.2.2.1] at this; cases this

/-- The cells of the first k boards. -/
def seenL (f : Nat → Nat → Int) (k : Nat) : List Value := (List.range (16 * k)).map fun o => .int .i64 (f (o / 16) (o % 16))
theorem seenL_succ (f : Nat → Nat → Int) (k : Nat) : seenL f (k + 1) = seenL f k ++ [.int .i64 (f k 0), .int .i64 (f k 1), .int .i64 (f k 2), .int .i64 (f k 3), .int .i64 (f k 4), .int .i64 (f k 5), .int .i64 (f k 6), .int .i64 (f k 7), .int .i64 (f k 8), .int .i64 (f k 9), .int .i64 (f k 10), .int .i64 (f k 11), .int .i64 (f k 12), .int .i64 (f k 13), .int .i64 (f k 14), .int .i64 (f k 15)] := by
  unfold seenL
  rw [show 16 * (k + 1) = 16 * k + 16 by omega, List.range_add, List.map_append]
  congr 1
  simp only [List.map_map]
  have e : ∀ j, j < 16 → ((fun o => Value.int .i64 (f (o / 16) (o % 16))) ∘ fun x => 16 * k + x) j = .int .i64 (f k j) := by
    intro j hj
    show Value.int .i64 (f ((16 * k + j) / 16) ((16 * k + j) % 16)) = _
    rw [show (16 * k + j) / 16 = k by omega, show (16 * k + j) % 16 = j by omega]
  simp only [List.range_succ, List.range_zero, List.nil_append, List.map_append, List.map_cons, List.map_nil, List.append_assoc, List.cons_append]
  rw [e 0 (by omega), e 1 (by omega), e 2 (by omega), e 3 (by omega), e 4 (by omega), e 5 (by omega), e 6 (by omega), e 7 (by omega), e 8 (by omega), e 9 (by omega), e 10 (by omega), e 11 (by omega), e 12 (by omega), e 13 (by omega), e 14 (by omega), e 15 (by omega)]
def seenC (f : Nat → Nat → Int) : Nat → Value := fun o => .int .i64 (f (o / 16) (o % 16))
theorem seen_sl {w : World} {base k : Nat} {v : Value} {f : Nat → Nat → Int} (h : w.ownsRow base 34 16 v k (seenL f k)) : ∃ A cap, v = .slice A k cap ∧ Sl w base A (k * 16) (seenC f) := by
  obtain ⟨A, cap, rfl, _, hS⟩ := own_sl h
  exact ⟨A, cap, rfl, hS.congr fun o ho => by simp [seenL, seenC, show o < 16 * k by omega]⟩
/-- The cells of board k of a list, as a region loads them. -/
def RBo (B k : Nat) (b : Nat → Int) (w' : World) : Prop := w'.rangeAt B (k * 16) [.int .i64 (b 0), .int .i64 (b 1), .int .i64 (b 2), .int .i64 (b 3), .int .i64 (b 4), .int .i64 (b 5), .int .i64 (b 6), .int .i64 (b 7), .int .i64 (b 8), .int .i64 (b 9), .int .i64 (b 10), .int .i64 (b 11), .int .i64 (b 12), .int .i64 (b 13), .int .i64 (b 14), .int .i64 (b 15)]
theorem RBo.r {B k : Nat} {b : Nat → Int} {w' : World} (h : RBo B k b w') : w'.rangeAt B (k * 16) [.int .i64 (b 0), .int .i64 (b 1), .int .i64 (b 2), .int .i64 (b 3), .int .i64 (b 4), .int .i64 (b 5), .int .i64 (b 6), .int .i64 (b 7), .int .i64 (b 8), .int .i64 (b 9), .int .i64 (b 10), .int .i64 (b 11), .int .i64 (b 12), .int .i64 (b 13), .int .i64 (b 14), .int .i64 (b 15)] := h
theorem rbo_of {w' : World} {B N k : Nat} {f : Nat → Nat → Int} (h : Has w' B N (seenC f)) (hk : k * 16 + 16 ≤ N) : RBo B k (f k) w' := by
  have e : ∀ j, j < 16 → seenC f (k * 16 + j) = .int .i64 (f k j) := by
    intro j hj
    show Value.int .i64 (f ((k * 16 + j) / 16) ((k * 16 + j) % 16)) = _
    rw [show (k * 16 + j) / 16 = k by omega, show (k * 16 + j) % 16 = j by omega]
  refine h.range 16 hk ?_
  simp only [List.range_succ, List.range_zero, List.nil_append, List.map_append, List.map_cons, List.map_nil, List.cons_append]
  rw [e 0 (by omega), e 1 (by omega), e 2 (by omega), e 3 (by omega), e 4 (by omega), e 5 (by omega), e 6 (by omega), e 7 (by omega), e 8 (by omega), e 9 (by omega), e 10 (by omega), e 11 (by omega), e 12 (by omega), e 13 (by omega), e 14 (by omega), e 15 (by omega)]
theorem bd_cells {wr : World} {T : TypeId} {b : Nat → Int} : ∀ (j : Nat) (u : Value), ([.int .i64 (b 0), .int .i64 (b 1), .int .i64 (b 2), .int .i64 (b 3), .int .i64 (b 4), .int .i64 (b 5), .int .i64 (b 6), .int .i64 (b 7), .int .i64 (b 8), .int .i64 (b 9), .int .i64 (b 10), .int .i64 (b 11), .int .i64 (b 12), .int .i64 (b 13), .int .i64 (b 14), .int .i64 (b 15)] : List Value)[j]? = some u → (wr.alloc (.cells #[.int .i64 (b 0), .int .i64 (b 1), .int .i64 (b 2), .int .i64 (b 3), .int .i64 (b 4), .int .i64 (b 5), .int .i64 (b 6), .int .i64 (b 7), .int .i64 (b 8), .int .i64 (b 9), .int .i64 (b 10), .int .i64 (b 11), .int .i64 (b 12), .int .i64 (b 13), .int .i64 (b 14), .int .i64 (b 15)] T)).cell? ((⟨wr.heap.size, 0, none⟩ : Addr).add j) = some u := by
  intro j u hj
  have hn := Has.new' (w := wr) (cs := #[.int .i64 (b 0), .int .i64 (b 1), .int .i64 (b 2), .int .i64 (b 3), .int .i64 (b 4), .int .i64 (b 5), .int .i64 (b 6), .int .i64 (b 7), .int .i64 (b 8), .int .i64 (b 9), .int .i64 (b 10), .int .i64 (b 11), .int .i64 (b 12), .int .i64 (b 13), .int .i64 (b 14), .int .i64 (b 15)]) (T := T) (n := 16) rfl
  rw [Addr.add_lit, Nat.zero_add]
  have hlt : j < 16 := by have := (List.getElem?_eq_some_iff.1 hj).1; simpa using this
  rw [hn.1 j hlt]
  rcases (by omega : j = 0 ∨ j = 1 ∨ j = 2 ∨ j = 3 ∨ j = 4 ∨ j = 5 ∨ j = 6 ∨ j = 7 ∨ j = 8 ∨ j = 9 ∨ j = 10 ∨ j = 11 ∨ j = 12 ∨ j = 13 ∨ j = 14 ∨ j = 15) with rfl | rfl | rfl | rfl | rfl | rfl | rfl | rfl | rfl | rfl | rfl | rfl | rfl | rfl | rfl | rfl <;> exact hj
theorem own_full {w : World} {cur : Array Value} {e size n base : Nat} (hb : base ≤ w.heap.size) (hm : n ≤ maxLen) (hs : cur.size = n * size) : (w.alloc (.cells cur e)).ownsRow base e size (.slice (some ⟨w.heap.size, 0, none⟩) n n) n cur.toList :=
  ⟨by simp [hs], .inr ⟨w.heap.size, n, cur, rfl, hb, heap_alloc_new w _, Nat.le_refl _, hm, hs, by rw [← hs, ← Array.length_toList, List.take_length]⟩⟩
theorem info_Bd3 : (Try.prog.info? 34).map (fun i => (i.zero, i.size, i.bytes)) = some (some (.agg #[.int .i64 0, .int .i64 0, .int .i64 0, .int .i64 0, .int .i64 0, .int .i64 0, .int .i64 0, .int .i64 0, .int .i64 0, .int .i64 0, .int .i64 0, .int .i64 0, .int .i64 0, .int .i64 0, .int .i64 0, .int .i64 0]), 16, 128) := by kernel_rfl

def Ix (f : Nat → Nat → Int) (k : Nat) (c : Nat → Int) (i : Int) : Prop := (i = -1 ∧ ∀ j, j < k → eqB c (f j) = false) ∨ ∃ m : Nat, m < k ∧ i = m ∧ eqB c (f m) = true ∧ ∀ j, j < m → eqB c (f j) = false

end Go.Proofs.Ytjnmdhnckmmdnaa
