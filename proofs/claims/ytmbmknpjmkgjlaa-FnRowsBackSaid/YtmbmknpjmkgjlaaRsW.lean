/-
  Words for lists of rows of four in blocks; how rows compare.
-/
import Derived.Test.YtmbmknpjmkgjlaaRowO
import Derived.Test.YtmbmknpjmkgjlaaEql
import Derived.Deep.WholeRow
import Derived.Deep.RegionHeld3
import Derived.Deep.Cut
namespace Go.Proofs.Ytmbmknpjmkgjlaa
open Go.RowKit

theorem own_base {w : World} {base base' e size n : Nat} {v : Value} {xs : List Value} (h : w.ownsRow base e size v n xs) (hb : base' ≤ base) : w.ownsRow base' e size v n xs := by
  refine ⟨h.1, ?_⟩
  rcases h.2 with h2 | ⟨g, cap, cur, e1, hg, r⟩
  · exact .inl h2
  · exact .inr ⟨g, cap, cur, e1, Nat.le_trans hb hg, r⟩
theorem own_at {w w1 : World} {o : Obj} {base e size n : Nat} {v : Value} {xs : List Value} (hW : w.alloc o = w1) (h : w.ownsRow base e size v n xs) : w1.ownsRow base e size v n xs := hW ▸ h.alloc o
theorem below_only' {w a a' : World} {B0 B : Nat} (h : Below B0 w a) (k : Only B a a') (hB : B0 ≤ B) : Below B0 w a' :=
  h.trans ⟨k.os, k.tape, k.output, Nat.le_of_eq k.size.symm, fun i hi => k.block i (by omega)⟩
theorem own_made0 {w w1 : World} {T size base : Nat} (hW : w.alloc (.cells #[] T) = w1) (hb : base ≤ w.heap.size) : w1.ownsRow base T size (.slice (some ⟨w.heap.size, 0, none⟩) 0 0) 0 [] := by
  subst hW
  exact World.ownsRow_made w #[] 0 hb (Nat.zero_le _) (by simp)
theorem own_draw {w : World} {base e size n : Nat} {v : Value} {xs : List Value} (h : w.ownsRow base e size v n xs) : w.drew.ownsRow base e size v n xs := h
theorem own_at_ne {w : World} {base e size n B : Nat} {v : Value} {xs : List Value} (h : w.ownsRow base e size v n xs) (hB : B < base) : v.ownBlock ≠ some B := by
  intro hk
  have := (h.lt B hk).1
  omega
/-- 'wpAnyH_take' with the slot written out. -/
theorem take_d {P : Program} {ops : Array Oper} {Q : Exit → Act → World → Prop} {md : Region.Mode} {S : World → Prop} {i : Nat} {oi : Oper} (d : Option Tmp) {v : Value} {fuel : Nat} {listed : Array Bool} {a : Act} {w : World} (hi : ops[i]? = some oi) (hd : oi.dst = d)
    (hs : Region.noSelect ops = true) (hf : Region.free md ops listed i = true) (hr : (Region.ready md ops listed).contains i = true)
    (hQ : ∀ c a w, Q (.panic c) (a.put d v) w → Q (.panic c) a w) (hy : YieldsIf P ops S oi v a) (hS : S w)
    (h : wpAnyH P md ops Q S fuel (listed.setIfInBounds i true) (a.put d v) w) : wpAnyH P md ops Q S (fuel + 1) listed a w := by
  subst hd
  exact wpAnyH_take hi hs hf hr hQ hy hS h
theorem p4 {n : Nat} (h : n < 4) : n = 0 ∨ n = 1 ∨ n = 2 ∨ n = 3 := by omega
theorem info_Rw3 : (Try.prog.info? 22).map (fun i => (i.zero, i.size, i.bytes)) = some (some (.agg #[.int .i64 0, .int .i64 0, .int .i64 0, .int .i64 0]), 4, 32) := by kernel_rfl
theorem info_Rw : (Try.prog.info? 22).map (·.size) = some 4 := by kernel_rfl
theorem allEq_R (a b : Nat → Int) : allEq a b 4 = eqR a b := by
  rw [Bool.eq_iff_iff, eqR_true, allEq, decide_eq_true_eq]
theorem eql_R (a b : Nat → Int) (w : World) : (binOp .eql 22 (.agg #[.int .i64 (a 0), .int .i64 (a 1), .int .i64 (a 2), .int .i64 (a 3)]) (.agg #[.int .i64 (b 0), .int .i64 (b 1), .int .i64 (b 2), .int .i64 (b 3)])).run Try.prog w = .ok (.bool (eqR a b)) w := by
  rw [← allEq_R]; exact run_eql_A4 a b w

theorem run_neq_A4 (a b : Nat → Int) (w : World) : (binOp .neq 22 (.agg #[.int .i64 (a 0), .int .i64 (a 1), .int .i64 (a 2), .int .i64 (a 3)]) (.agg #[.int .i64 (b 0), .int .i64 (b 1), .int .i64 (b 2), .int .i64 (b 3)])).run Try.prog w = .ok (.bool (!allEq a b 4)) w := by
  simp only [binOp, Op.equal, Op.maxDepth]
  simp [equalIn_A4]
theorem neq_R (a b : Nat → Int) (w : World) : (binOp .neq 22 (.agg #[.int .i64 (a 0), .int .i64 (a 1), .int .i64 (a 2), .int .i64 (a 3)]) (.agg #[.int .i64 (b 0), .int .i64 (b 1), .int .i64 (b 2), .int .i64 (b 3)])).run Try.prog w = .ok (.bool (!eqR a b)) w := by
  rw [← allEq_R]; exact run_neq_A4 a b w

/-- The cells of a list of rows. -/
def rsC (l : List (Nat → Int)) : Nat → Value := fun o => .int .i64 (atR l (o / 4) (o % 4))
theorem rsC_get : ∀ (l : List (Nat → Int)) {o : Nat}, o < l.length * 4 → (rsV l)[o]? = some (rsC l o)
  | [], o, h => absurd h (by simp)
  | b :: l, o, h => by
    rw [rsV_cons]
    by_cases ho : o < 4
    · rw [List.getElem?_append_left (by simpa [c4] using ho)]
      rcases p4 ho with rfl | rfl | rfl | rfl <;> rfl
    · have h1 := rsC_get l (o := o - 4) (by simp only [List.length_cons] at h; omega)
      rw [List.getElem?_append_right (by simp [c4]; omega)]
      show (rsV l)[o - 4]? = _
      rw [h1]
      show some (Value.int .i64 (atR l ((o - 4) / 4) ((o - 4) % 4))) = some (.int .i64 (atR (b :: l) (o / 4) (o % 4)))
      rw [show o / 4 = (o - 4) / 4 + 1 by omega, show o % 4 = (o - 4) % 4 by omega]
      rfl
theorem rs_sl {w : World} {base : Nat} {v : Value} {l : List (Nat → Int)} (h : w.ownsRow base 22 4 v l.length (rsV l)) : ∃ A cap, v = .slice A l.length cap ∧ l.length ≤ cap ∧ Sl w base A (l.length * 4) (rsC l) := by
  obtain ⟨A, cap, rfl, hcap, hS⟩ := own_sl h
  exact ⟨A, cap, rfl, hcap, hS.congr fun o ho => by
    have := rsC_get l ho
    simp [List.getD, this]⟩
/-- The cells of row k of a list, as a region loads them. -/
def RRo (B k : Nat) (b : Nat → Int) (w' : World) : Prop := w'.rangeAt B (k * 4) [.int .i64 (b 0), .int .i64 (b 1), .int .i64 (b 2), .int .i64 (b 3)]
theorem RRo.r {B k : Nat} {b : Nat → Int} {w' : World} (h : RRo B k b w') : w'.rangeAt B (k * 4) [.int .i64 (b 0), .int .i64 (b 1), .int .i64 (b 2), .int .i64 (b 3)] := h
theorem rro_of {w' : World} {B N k : Nat} {l : List (Nat → Int)} (h : Has w' B N (rsC l)) (hk : k * 4 + 4 ≤ N) : RRo B k (atR l k) w' := by
  have e : ∀ j, j < 4 → rsC l (k * 4 + j) = .int .i64 (atR l k j) := by
    intro j hj
    show Value.int .i64 (atR l ((k * 4 + j) / 4) ((k * 4 + j) % 4)) = _
    rw [show (k * 4 + j) / 4 = k by omega, show (k * 4 + j) % 4 = j by omega]
  refine h.range 4 hk ?_
  simp only [List.range_succ, List.range_zero, List.nil_append, List.map_cons, List.map_nil, List.cons_append]
  rw [e 0 (by omega), e 1 (by omega), e 2 (by omega), e 3 (by omega)]
/-- A row that a block of four cells holds, as a region loads it. -/
def RR (B0 : Nat) (b : Nat → Int) (w' : World) : Prop := w'.rangeAt B0 0 [.int .i64 (b 0), .int .i64 (b 1), .int .i64 (b 2), .int .i64 (b 3)]
theorem rr_of {w' : World} {B0 : Nat} {b : Nat → Int} (h : Has w' B0 4 (fun o => .int .i64 (b o))) : RR B0 b w' := h.range 4 (by omega) (by simp [List.range_succ])
theorem RR.r {w' : World} {B0 : Nat} {b : Nat → Int} (h : RR B0 b w') : w'.rangeAt B0 0 [.int .i64 (b 0), .int .i64 (b 1), .int .i64 (b 2), .int .i64 (b 3)] := h
theorem lit4' (f : Nat → Int) (o : Nat) (ho : o < 4) : (#[Value.int .i64 (f 0), .int .i64 (f 1), .int .i64 (f 2), .int .i64 (f 3)] : Array Value).getD o undef = .int .i64 (f o) := by
  rcases p4 ho with rfl | rfl | rfl | rfl <;> rfl
/-- Rows out of a block that holds a list of them. -/
theorem rs_news {w : World} {g k : Nat} {l : List (Nat → Int)} (hk : l.length = k) (h : Has w g (k * 4) (rsC l)) (o : Nat) (m : List Value) (e : ∀ j u, m[j]? = some u → (rsV l)[o + j]? = some u) : ∀ (j : Nat) (u : Value), m[j]? = some u → w.cell? ((⟨g, o, none⟩ : Addr).add j) = some u := by
  subst hk
  intro j u hj
  have h1 := e j u hj
  rw [Addr.add_lit]
  have hlt : o + j < l.length * 4 := by
    have := (List.getElem?_eq_some_iff.1 h1).1
    rwa [rsV_len] at this
  rw [h.1 _ hlt, ← h1, rsC_get l hlt]
theorem rs_take {w : World} {g k : Nat} {l : List (Nat → Int)} (hk : l.length = k) (h : Has w g (k * 4) (rsC l)) (n : Nat) : ∀ (j : Nat) (u : Value), (rsV (l.take n))[j]? = some u → w.cell? ((⟨g, 0, none⟩ : Addr).add j) = some u :=
  rs_news hk h 0 _ fun j u hj => by
    rw [rsV_take, List.getElem?_take] at hj
    split at hj
    · simpa using hj
    · cases hj
theorem rs_drop {w : World} {g k : Nat} {l : List (Nat → Int)} (hk : l.length = k) (h : Has w g (k * 4) (rsC l)) (n : Nat) : ∀ (j : Nat) (u : Value), (rsV (l.drop n))[j]? = some u → w.cell? ((⟨g, n * 4, none⟩ : Addr).add j) = some u :=
  rs_news hk h (n * 4) _ fun j u hj => by
    rw [rsV_drop, List.getElem?_drop] at hj
    exact hj
theorem rs_box {w : World} {B : Nat} {b : Nat → Int} (h : Has w B 4 (fun o => .int .i64 (b o))) : ∀ (j : Nat) (u : Value), (c4 b)[j]? = some u → w.cell? ((⟨B, 0, none⟩ : Addr).add j) = some u := by
  intro j u hj
  have hlt : j < 4 := by have := (List.getElem?_eq_some_iff.1 hj).1; simpa [c4] using this
  rw [Addr.add_lit, Nat.zero_add, h.1 j hlt, ← hj]
  rcases p4 hlt with rfl | rfl | rfl | rfl <;> rfl
theorem rw_cells {wr : World} {T : TypeId} {b : Nat → Int} : ∀ (j : Nat) (u : Value), (c4 b)[j]? = some u → (wr.alloc (.cells #[.int .i64 (b 0), .int .i64 (b 1), .int .i64 (b 2), .int .i64 (b 3)] T)).cell? ((⟨wr.heap.size, 0, none⟩ : Addr).add j) = some u := by
  refine rs_box (b := b) ?_
  have hn := Has.new' (w := wr) (cs := #[.int .i64 (b 0), .int .i64 (b 1), .int .i64 (b 2), .int .i64 (b 3)]) (T := T) (n := 4) rfl
  exact hn.congr fun o ho => lit4' b o ho
theorem c4_ints (b : Nat → Int) : ∀ u, u ∈ c4 b → u.oneCell' = true := by
  intro u hu
  exact rsV_ints [b] u (by rw [rsV_one]; exact hu)

/-- -1, 0 or 1: how two rows compare. -/
def cmR (a b : Nat → Int) : Int := if ltR a b = true then -1 else if eqR a b = true then 0 else 1
theorem cmR_lt (a b : Nat → Int) : decide (cmR a b < 0) = ltR a b := by
  unfold cmR
  cases ltR a b <;> cases eqR a b <;> simp

end Go.Proofs.Ytmbmknpjmkgjlaa
