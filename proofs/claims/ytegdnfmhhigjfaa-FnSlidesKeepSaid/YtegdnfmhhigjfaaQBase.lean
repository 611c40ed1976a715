/-
  Small words for this seat's texts: elements of array values.
-/
import Derived.Test.YtegdnfmhhigjfaaBase0
import Derived.OwnWalk
import Derived.Laws.OwnMore
import Derived.Maps.AppendAt
import Derived.Test.YtegdnfmhhigjfaaWrap
import Derived.Deep.OwnRows
import Derived.Deep.DeepCutAuto
import Derived.Laws.Bits64b
namespace Go.Proofs.Ytegdnfmhhigjfaa
open Go.RowKit

theorem load_A4 {ops : Array Oper} {rest : List Oper} {op : Oper} {a : Act} {w : World} {Q : Exit → Act → World → Prop} (hgd : op.guard = none) (x : Operand) (ho : op.op = .load 24 x)
    (b o : Nat) (hx : a.eval x = .pointer (some ⟨b, o, none⟩)) {n : Nat} {c : Nat → Value} (hH : Has w b n c) (hle : o + 4 ≤ n)
    (h : wpList Try.prog ops Q rest (a.put op.dst (.agg #[c o, c (o + 1), c (o + 2), c (o + 3)])) w) : wpList Try.prog ops Q (op :: rest) a w :=
  wpList_load_mid hgd 24 x ho b o hx [c o, c (o + 1), c (o + 2), c (o + 3)] _ (hH.range 4 hle) Try.underlying24 rfl (by kernel_rfl) h

theorem store_A4 {ops : Array Oper} {rest : List Oper} {op : Oper} {a : Act} {w : World} {Q : Exit → Act → World → Prop} (hgd : op.guard = none) (x y : Operand) (ho : op.op = .store 24 x y)
    (b o : Nat) (v0 v1 v2 v3 : Value) (hx : a.eval x = .pointer (some ⟨b, o, none⟩)) (hy : a.eval y = .agg #[v0, v1, v2, v3]) (h1 : ([v0, v1, v2, v3] : List Value).all (·.oneCell') = true) {n : Nat} {c : Nat → Value} (hH : Has w b n c) (hle : o + 4 ≤ n)
    (h : ∀ w2, Only b w w2 → Has w2 b n (fun j => if j = o then v0 else if j = o + 1 then v1 else if j = o + 2 then v2 else if j = o + 3 then v3 else c j) → wpList Try.prog ops Q rest (a.put op.dst undef) w2) : wpList Try.prog ops Q (op :: rest) a w :=
  wpList_store_mid hgd 24 x y ho b o #[v0, v1, v2, v3] hx hy (hH.there 4 hle) (by kernel_rfl) (by simpa using h1)
    (h _ (only_setCells _ _ _ _) (by
      refine (hH.sets [v0, v1, v2, v3] hle).congr fun j _ => ?_
      simp only [List.length_cons, List.length_nil]
      by_cases hj : o ≤ j ∧ j < o + 4
      · obtain ⟨i, rfl⟩ : ∃ i, j = o + i := ⟨j - o, by omega⟩
        have hi : i < 4 := by omega
        rw [if_pos (by omega)]
        rcases (by omega : i = 0 ∨ i = 1 ∨ i = 2 ∨ i = 3) with rfl | rfl | rfl | rfl <;> simp
      · rw [if_neg (by omega)]
        repeat rw [if_neg (by omega)]))

theorem loadVar_A4 {w : World} {b n : Nat} {c : Nat → Value} (hH : Has w b n c) (hle : 4 ≤ n) : (loadVar 24 ⟨b, 0, none⟩).run Try.prog w = .ok (.agg #[c 0, c 1, c 2, c 3]) w :=
  run_loadVar_mid w b 0 24 [c 0, c 1, c 2, c 3] _ (hH.range 4 (by omega) (by simp [List.range_succ])) Try.underlying24 rfl (by kernel_rfl)


theorem info_int : (Try.prog.info? 3).map (·.size) = some 1 := by kernel_rfl
theorem info_bool : (Try.prog.info? 4).map (·.size) = some 1 := by kernel_rfl

theorem store_int {ops : Array Oper} {rest : List Oper} {op : Oper} {a : Act} {w : World} {Q : Exit → Act → World → Prop} (hgd : op.guard = none) (x y : Operand) (ho : op.op = .store 3 x y)
    (b o : Nat) (v : Int) (hx : a.eval x = .pointer (some ⟨b, o, none⟩)) (hy : a.eval y = .int .i64 v) {n : Nat} {c : Nat → Value} (hH : Has w b n c) (hle : o < n)
    (h : ∀ w2, Only b w w2 → Has w2 b n (fun j => if j = o then .int .i64 v else c j) → wpList Try.prog ops Q rest (a.put op.dst undef) w2) : wpList Try.prog ops Q (op :: rest) a w :=
  store_one 3 info_int hgd x y ho b o _ hx hy rfl hH hle h
theorem store_bool {ops : Array Oper} {rest : List Oper} {op : Oper} {a : Act} {w : World} {Q : Exit → Act → World → Prop} (hgd : op.guard = none) (x y : Operand) (ho : op.op = .store 4 x y)
    (b o : Nat) (v : Bool) (hx : a.eval x = .pointer (some ⟨b, o, none⟩)) (hy : a.eval y = .bool v) {n : Nat} {c : Nat → Value} (hH : Has w b n c) (hle : o < n)
    (h : ∀ w2, Only b w w2 → Has w2 b n (fun j => if j = o then .bool v else c j) → wpList Try.prog ops Q rest (a.put op.dst undef) w2) : wpList Try.prog ops Q (op :: rest) a w :=
  store_one 4 info_bool hgd x y ho b o _ hx hy rfl hH hle h

/-- A load of one whole number out of a block that is known. -/
theorem load_int {ops : Array Oper} {rest : List Oper} {op : Oper} {a : Act} {w : World} {Q : Exit → Act → World → Prop} (hgd : op.guard = none) (x : Operand) (ho : op.op = .load 3 x)
    (b o : Nat) (hx : a.eval x = .pointer (some ⟨b, o, none⟩)) {n : Nat} {c : Nat → Value} (hH : Has w b n c) (hle : o < n)
    (h : wpList Try.prog ops Q rest (a.put op.dst (c o)) w) : wpList Try.prog ops Q (op :: rest) a w := by
  refine wpList_plain hgd fun K hK => ?_
  have hc := hH.1 o hle
  have hr : (Instr.loadAt 3 (.pointer (some ⟨b, o, none⟩))).run Try.prog w = .ok (c o) w := by
    simp [Instr.loadAt, Instr.sureAddr, loadVar, isAgg, run_underlying Try.underlying3, hc, go_sem]
  unfold Oper.wp execOp
  simp only [ho, hx, Sem.run_bind, hr]
  exact hK _ _ h

-- small numbers fit
theorem wrap_c0 : IntKind.i64.wrap 0 = 0 := by kernel_rfl
theorem wrap_c1 : IntKind.i64.wrap 1 = 1 := by kernel_rfl
theorem wrap_c2 : IntKind.i64.wrap 2 = 2 := by kernel_rfl
theorem wrap_c3 : IntKind.i64.wrap 3 = 3 := by kernel_rfl
theorem wrap_c4 : IntKind.i64.wrap 4 = 4 := by kernel_rfl
theorem wrap_c5 : IntKind.i64.wrap 5 = 5 := by kernel_rfl
theorem wrap_c6 : IntKind.i64.wrap 6 = 6 := by kernel_rfl
theorem wrap_c7 : IntKind.i64.wrap 7 = 7 := by kernel_rfl
theorem wrap_c8 : IntKind.i64.wrap 8 = 8 := by kernel_rfl
theorem wrap_c9 : IntKind.i64.wrap 9 = 9 := by kernel_rfl
theorem wrap_c10 : IntKind.i64.wrap 10 = 10 := by kernel_rfl
theorem wrap_c11 : IntKind.i64.wrap 11 = 11 := by kernel_rfl
theorem wrap_c12 : IntKind.i64.wrap 12 = 12 := by kernel_rfl
theorem wrap_c13 : IntKind.i64.wrap 13 = 13 := by kernel_rfl
theorem wrap_c14 : IntKind.i64.wrap 14 = 14 := by kernel_rfl
theorem wrap_c15 : IntKind.i64.wrap 15 = 15 := by kernel_rfl
theorem wrap_c16 : IntKind.i64.wrap 16 = 16 := by kernel_rfl
theorem wrap_c17 : IntKind.i64.wrap 17 = 17 := by kernel_rfl
theorem wrap_c18 : IntKind.i64.wrap 18 = 18 := by kernel_rfl
theorem wrap_c19 : IntKind.i64.wrap 19 = 19 := by kernel_rfl
theorem wrap_m1 : IntKind.i64.wrap (-1) = -1 := by kernel_rfl
attribute [go_sem] wrap_c0 wrap_c1 wrap_c2 wrap_c3 wrap_c4 wrap_c5 wrap_c6 wrap_c7 wrap_c8 wrap_c9 wrap_c10 wrap_c11 wrap_c12 wrap_c13 wrap_c14 wrap_c15 wrap_c16 wrap_c17 wrap_c18 wrap_c19 wrap_m1

-- an element of an array value
theorem index4_0 (v0 v1 v2 v3 : Value) (w : World) : (Instr.index 24 (.agg #[v0, v1, v2, v3]) (.int .i64 0)).run Try.prog w = .ok v0 w := by kernel_rfl
theorem index4_1 (v0 v1 v2 v3 : Value) (w : World) : (Instr.index 24 (.agg #[v0, v1, v2, v3]) (.int .i64 1)).run Try.prog w = .ok v1 w := by kernel_rfl
theorem index4_2 (v0 v1 v2 v3 : Value) (w : World) : (Instr.index 24 (.agg #[v0, v1, v2, v3]) (.int .i64 2)).run Try.prog w = .ok v2 w := by kernel_rfl
theorem index4_3 (v0 v1 v2 v3 : Value) (w : World) : (Instr.index 24 (.agg #[v0, v1, v2, v3]) (.int .i64 3)).run Try.prog w = .ok v3 w := by kernel_rfl
attribute [go_sem] index4_0 index4_1 index4_2 index4_3

end Go.Proofs.Ytegdnfmhhigjfaa

namespace Go.Proofs.Ytegdnfmhhigjfaa
open Go.RowKit

/-- The slice at A of n elements, k cells in all: where k is not 0 it begins a block from B on that holds the cells c. -/
def Sl (w : World) (B : Nat) (A : Option Addr) (k : Nat) (c : Nat → Value) : Prop := 0 < k → ∃ g, A = some ⟨g, 0, none⟩ ∧ B ≤ g ∧ Has w g k c

theorem Has.below {W w2 : World} {B0 B n : Nat} {c : Nat → Value} (h : Has W B n c) (hb : Below B0 W w2) (hlt : B < B0) : Has w2 B n c :=
  ⟨fun o ho => (hb.cell (p := ⟨B, o, none⟩) hlt).trans (h.1 o ho), fun o => (hb.frozen (p := ⟨B, o, none⟩) hlt).trans (h.2.1 o), Nat.lt_of_lt_of_le h.2.2 hb.size⟩
theorem Has.grown {W w2 : World} {B n : Nat} {c : Nat → Value} {row : Option Nat} (h : Has W B n c) (hg : W.grownBy w2 row) (hne : row ≠ some B) : Has w2 B n c :=
  ⟨fun o ho => (World.cell?_of_block (a := ⟨B, o, none⟩) (hg.block B h.2.2 (Ne.symm hne))).trans (h.1 o ho), fun o => (World.frozen?_of_block (a := ⟨B, o, none⟩) (hg.block B h.2.2 (Ne.symm hne))).trans (h.2.1 o), Nat.lt_of_lt_of_le h.2.2 hg.size⟩
theorem Sl.call {w w2 : World} {B k : Nat} {A : Option Addr} {c : Nat → Value} (h : Sl w B A k c) (hb : Below w.heap.size w w2) : Sl w2 B A k c :=
  fun hk => let ⟨g, e, hB, hH⟩ := h hk; ⟨g, e, hB, hH.call hb⟩
theorem Sl.only {w w2 : World} {B B' k : Nat} {A : Option Addr} {c : Nat → Value} (h : Sl w B A k c) (hb : Only B' w w2) (hne : B' < B) : Sl w2 B A k c :=
  fun hk => let ⟨g, e, hB, hH⟩ := h hk; ⟨g, e, hB, hH.only hb (by omega)⟩
theorem Sl.alloc {w : World} {B k : Nat} {A : Option Addr} {c : Nat → Value} (h : Sl w B A k c) (o : Obj) : Sl (w.alloc o) B A k c :=
  fun hk => let ⟨g, e, hB, hH⟩ := h hk; ⟨g, e, hB, hH.alloc o⟩
theorem Sl.drewN {w : World} {B k : Nat} {A : Option Addr} {c : Nat → Value} (h : Sl w B A k c) (n : Nat) : Sl (w.drewN n) B A k c :=
  fun hk => let ⟨g, e, hB, hH⟩ := h hk; ⟨g, e, hB, hH.drewN n⟩
theorem Sl.mono {w : World} {B B' k : Nat} {A : Option Addr} {c : Nat → Value} (h : Sl w B A k c) (hB : B' ≤ B) : Sl w B' A k c :=
  fun hk => let ⟨g, e, h1, hH⟩ := h hk; ⟨g, e, Nat.le_trans hB h1, hH⟩
theorem Sl.congr {w : World} {B k : Nat} {A : Option Addr} {c d : Nat → Value} (h : Sl w B A k c) (e : ∀ o, o < k → c o = d o) : Sl w B A k d :=
  fun hk => let ⟨g, e1, hB, hH⟩ := h hk; ⟨g, e1, hB, hH.congr e⟩
theorem sl_zero (w : World) (B : Nat) (A : Option Addr) (c : Nat → Value) : Sl w B A 0 c := fun h => absurd h (Nat.lt_irrefl _)

/-- A row of the call's own reads as a slice. -/
theorem own_sl {w : World} {base e size n : Nat} {v : Value} {xs : List Value} (h : w.ownsRow base e size v n xs) : ∃ A cap, v = .slice A n cap ∧ n ≤ cap ∧ Sl w base A (n * size) (fun o => xs.getD o undef) := by
  have hlen := h.1
  rcases h.2 with ⟨rfl, rfl⟩ | ⟨g, cap, cur, rfl, hg, hh, hnc, _, _, _⟩
  · exact ⟨none, 0, rfl, Nat.le_refl _, by rw [Nat.zero_mul]; exact sl_zero _ _ _ _⟩
  · refine ⟨_, _, rfl, hnc, fun _ => ⟨g, rfl, hg, ⟨fun o ho => ?_, fun o => h.frozenAt o, (Array.getElem?_eq_some_iff.1 hh).1⟩⟩⟩
    rw [h.cellAt o ho]
    have hlt : o < xs.length := by omega
    simp [hlt]

theorem own_call {w w2 : World} {base e size n : Nat} {v : Value} {xs : List Value} (h : w.ownsRow base e size v n xs) (hb : Below w.heap.size w w2) : w2.ownsRow base e size v n xs := by
  refine ⟨h.1, ?_⟩
  rcases h.2 with h2 | ⟨g, cap, cur, e1, hg, hh, r⟩
  · exact .inl h2
  · exact .inr ⟨g, cap, cur, e1, hg, (hb.block g (Array.getElem?_eq_some_iff.1 hh).1).trans hh, r⟩
theorem own_only {w w2 : World} {base e size n B : Nat} {v : Value} {xs : List Value} (h : w.ownsRow base e size v n xs) (hb : Only B w w2) (hB : B < base) : w2.ownsRow base e size v n xs := by
  refine ⟨h.1, ?_⟩
  rcases h.2 with h2 | ⟨g, cap, cur, e1, hg, hh, r⟩
  · exact .inl h2
  · exact .inr ⟨g, cap, cur, e1, hg, (hb.block g (by omega)).trans hh, r⟩
theorem own_drewN {w : World} {base e size n : Nat} {v : Value} {xs : List Value} (h : w.ownsRow base e size v n xs) (k : Nat) : (w.drewN k).ownsRow base e size v n xs := h

/-- Cells out of a block that is known. -/
theorem Has.news {w : World} {g N o m : Nat} {c : Nat → Value} (h : Has w g N c) (hle : o + m ≤ N) : ∀ j u, ((List.range m).map fun j => c (o + j))[j]? = some u → w.cell? ((⟨g, o, none⟩ : Addr).add j) = some u := by
  intro j u hj
  rw [Addr.add_lit]
  by_cases hjm : j < m
  · simp [hjm] at hj
    rw [h.1 (o + j) (by omega), hj]
  · simp [hjm] at hj

theorem ite_int (p : Prop) [Decidable p] (x y : Int) : (if p then Value.int .i64 x else Value.int .i64 y) = Value.int .i64 (if p then x else y) := by split <;> rfl

theorem ite_bool (p : Prop) [Decidable p] (x y : Bool) : (if p then Value.bool x else Value.bool y) = Value.bool (if p then x else y) := by split <;> rfl

theorem four_set (f : Nat → Int) (x : Nat → Value) (o : Nat) (ho : o < 4) : (if o = 3 then Value.int .i64 (f 3) else if o = 2 then .int .i64 (f 2) else if o = 1 then .int .i64 (f 1) else if o = 0 then .int .i64 (f 0) else x o) = .int .i64 (f o) := by
  rcases (by omega : o = 0 ∨ o = 1 ∨ o = 2 ∨ o = 3) with rfl | rfl | rfl | rfl <;> rfl

theorem info_int3 : (Try.prog.info? 3).map (fun i => (i.zero, i.size, i.bytes)) = some (some (.int .i64 0), 1, 8) := by kernel_rfl

set_option maxHeartbeats 2000000 in
theorem clone_any (g o n cap N : Nat) (c : Nat → Int) (w : World) (hH : Has w g N (fun i => .int .i64 (c i))) (hle : o + n ≤ N) (hn : n ≤ 65536) :
    Calls Try.prog 144 #[.slice (some ⟨g, o, none⟩) n cap] w fun e w' => ∃ v, e = .returned v ∧ w'.ownsRow w.heap.size 3 1 v n ((List.range n).map fun i => .int .i64 (c (o + i))) ∧ Below w.heap.size w w' := by
  obtain ⟨i0, hi0, hz0, hz1, hz2⟩ := info_parts info_int3
  have q22 : ∀ (w : World) (a : Option Addr) (n c n' c' : Nat), (binOp .eql 41 (.slice a n c) (.slice none n' c')).run Try.prog w = .ok (.bool a.isNone) w := fun w a n c n' c' => Lib.run_eql_slice_nil w _ _ a n c n' c' Try.underlying41
  have HH := hide (hH.alloc (.cells #[] 3))
  clear hH
  go_enter Try.func144, Try.ntmps144
  go_wp2_with (at_builtin; refine wpList_append_own _ rfl _ _ 41 rfl w.heap.size 3 i0 (.int .i64 0) 1 8 Try.underlying41 hi0 hz0 hz1 hz2 rfl (by decide) _ _ _ rfl (World.ownsRow_made w #[] 0 (Nat.le_refl _) (Nat.zero_le _) rfl) ⟨g, o, none⟩ n cap ((List.range n).map fun i => .int .i64 (c (o + i))) rfl ?qc1 ?qc2 ?qc3 ?qc4 ?qc5 ?qc6 ?_)
  case qc1 => simp
  case qc2 => exact HH.out.news hle
  case qc3 => intro u hu; obtain ⟨x, _, rfl⟩ := List.mem_map.1 hu; rfl
  case qc4 => unfold maxLen; omega
  case qc5 => omega
  case qc6 => simp
  intro v' w1 hown hgrow hnil
  go_wp2
  go_ret
  refine ⟨v', rfl, by simpa using hown, ?_⟩
  exact ((Below.refl _ w).alloc (Nat.le_refl _) _).grown hgrow (by simp) (by intro k hk; simp [Value.ownBlock] at hk; omega)

end Go.Proofs.Ytegdnfmhhigjfaa

namespace Go.Proofs.Ytegdnfmhhigjfaa
open Go.RowKit

theorem gr_refl (w : World) (q : Option Nat) : w.grownBy w q := ⟨rfl, rfl, rfl, Nat.le_refl _, fun _ _ _ => rfl⟩
theorem gr_trans {w w1 w2 : World} {q : Option Nat} (h : w.grownBy w1 q) (h2 : w1.grownBy w2 q) : w.grownBy w2 q := by
  refine ⟨h2.os.trans h.os, h2.tape.trans h.tape, h2.output.trans h.output, Nat.le_trans h.size h2.size, fun k hk hne => ?_⟩
  rw [h2.block k (Nat.lt_of_lt_of_le hk h.size) hne, h.block k hk hne]
theorem gr_below {w w1 : World} (q : Option Nat) (h : Below w.heap.size w w1) : w.grownBy w1 q :=
  ⟨h.os, h.tape, h.output, h.size, fun k hk _ => h.block k hk⟩
theorem gr_only {w w1 : World} {B : Nat} (h : Only B w w1) : w.grownBy w1 (some B) :=
  ⟨h.os, h.tape, h.output, Nat.le_of_eq h.size.symm, fun k hk hne => h.block k (fun he => hne (by rw [he]))⟩
theorem gr_new {w : World} (q : Option Nat) (o : Obj) : w.grownBy (w.alloc o) q := gr_below q ((Below.refl _ _).alloc (Nat.le_refl _) o)
theorem gr_drewN {w : World} (q : Option Nat) (n : Nat) : w.grownBy (w.drewN n) q := ⟨rfl, rfl, rfl, Nat.le_refl _, fun _ _ _ => rfl⟩
theorem gr_drew {w : World} (q : Option Nat) : w.grownBy w.drew q := ⟨rfl, rfl, rfl, Nat.le_refl _, fun _ _ _ => rfl⟩
/-- The block is the call's own: nothing elder differs. -/
theorem below_gr {W w w1 : World} {B : Nat} (hB : Below W.heap.size W w) (h : w.grownBy w1 (some B)) (hW : W.heap.size ≤ B) : Below W.heap.size W w1 :=
  hB.grown h hB.size (fun q hq => by have := Option.some.inj hq; omega)

end Go.Proofs.Ytegdnfmhhigjfaa

namespace Go.Proofs.Ytegdnfmhhigjfaa
open Go.ChangeShapes Go.WideShapes Go.ChangeAt Go.RowKit

/-- The slice at A holds the n bytes x. -/
def ArgB (W : World) (A : Option Addr) (n : Nat) (x : Nat → Nat) : Prop :=
  0 < n → ∃ b off, A = some ⟨b, off, none⟩ ∧ b < W.heap.size ∧ ∀ i, i < n → W.cell? ⟨b, off + i, none⟩ = some (.int .u8 (x i : Int)) ∧ x i ≤ 255
theorem ArgB.call {w w2 : World} {A : Option Addr} {n : Nat} {x : Nat → Nat} (h : ArgB w A n x) (hb : Below w.heap.size w w2) : ArgB w2 A n x := fun h0 => by
  obtain ⟨b, off, e, hlt, hc⟩ := h h0
  exact ⟨b, off, e, Nat.lt_of_lt_of_le hlt hb.size, fun i hi => ⟨(hb.cell (p := ⟨b, off + i, none⟩) hlt).trans (hc i hi).1, (hc i hi).2⟩⟩

section
variable {H : Type} {enc : TypeId × Value → H}
set_option maxRecDepth 100000 in
theorem bytes_arg {W : World} {r : Reach} {b0 : Nat} {t e : TypeId} {v : Value} {d : DataW H} {ps : List MemPlace} (ht : Try.prog.underlying t = some (.slice e)) (he : Try.prog.underlying e = some (.int .u8)) (hc : Try.prog.cellsOf e = 1)
    (hval : Value.okWide Try.prog W r b0 t v) (hd : DataW.Trod enc Try.prog W 0 (fun _ => true) true t v d ps) :
    ∃ A n cap x, v = .slice A n cap ∧ n ≤ maxLen ∧ Hid (ArgB W A n x) := by
  obtain ⟨a0, len, cap, rfl⟩ := okWide_slice ht hval
  obtain ⟨fuel, hf⟩ := hd
  rcases open_ints ht he hc hf with ⟨hcs, hx⟩ | ⟨a, len', cap', zs, hcs, _, hl, hm, hz, hx, hcell, hwz⟩
  · simp [Value.cells] at hcs
    obtain ⟨rfl, rfl, rfl⟩ := hcs
    exact ⟨none, 0, 0, fun _ => 0, rfl, (by unfold maxLen; omega), fun h => absurd h (Nat.lt_irrefl 0)⟩
  · simp [Value.cells] at hcs
    obtain ⟨rfl, rfl, rfl⟩ := hcs
    simp only [Prod.mk.injEq] at hx
    obtain ⟨rfl, rfl⟩ := hx
    simp only [if_true] at hz
    refine ⟨some a, len, cap, fun i => (zs.getD i 0).toNat, rfl, Nat.le_trans hl hm, fun h0 => ?_⟩
    obtain ⟨b, off, spot⟩ := a
    have hlz : len ≤ zs.length := by omega
    have hspot : spot = none := by simpa [Addr.add] using World.cell?_spot (hcell 0 (by omega))
    subst hspot
    refine ⟨b, off, rfl, ?_, fun i hi => ?_⟩
    · have h1 := hcell 0 (by omega)
      exact World.block_lt_of_cell? W _ h1
    · have h1 := hcell i (by omega)
      rw [Addr.add_lit] at h1
      have hmem : zs.getD i 0 ∈ zs := by
        have hi2 : i < zs.length := by omega
        rw [List.getD_eq_getElem?_getD, List.getElem?_eq_getElem hi2]
        exact List.getElem_mem hi2
      have h2 := hwz _ hmem
      have h3 := bounds_u8 h2
      refine ⟨?_, by show (zs.getD i 0).toNat ≤ 255; omega⟩
      rw [h1]
      show _ = some (Value.int .u8 (((zs.getD i 0).toNat : Nat) : Int))
      rw [Int.toNat_of_nonneg h3.1]
end

end Go.Proofs.Ytegdnfmhhigjfaa

namespace Go.Proofs.Ytegdnfmhhigjfaa
open Go.RowKit

def CurC (A : Option Addr) (n cp at' : Nat) (seed : Int) : Nat → Value := fun o => if o = 0 then .slice A n cp else if o = 1 then .int .i64 (at' : Int) else .int .u64 seed
/-- Block C holds a reader over the n bytes at A that has read at most m of them. -/
def Cur (w : World) (C : Nat) (A : Option Addr) (n cp m : Nat) : Prop := ∃ (at' : Nat) (seed : Int), at' ≤ m ∧ (0 ≤ seed ∧ seed ≤ 18446744073709551615) ∧ Has w C 3 (CurC A n cp at' seed)
theorem ArgB.grown {w w2 : World} {A : Option Addr} {n : Nat} {x : Nat → Nat} {q : Option Nat} (h : ArgB w A n x) (hg : w.grownBy w2 q) (hq : ∀ b off, 0 < n → A = some ⟨b, off, none⟩ → q ≠ some b) : ArgB w2 A n x := fun h0 => by
  obtain ⟨b, off, e, hlt, hc⟩ := h h0
  have hne := hq b off h0 e
  refine ⟨b, off, e, Nat.lt_of_lt_of_le hlt hg.size, fun i hi => ⟨?_, (hc i hi).2⟩⟩
  rw [← (hc i hi).1]
  have hb := hg.block b hlt (fun he => hne he.symm)
  unfold World.cell?
  simp only [hb]
theorem Cur.call {w w2 : World} {C : Nat} {A : Option Addr} {n cp m : Nat} (h : Cur w C A n cp m) (hb : Below w.heap.size w w2) : Cur w2 C A n cp m := by
  obtain ⟨a, s, h1, h2, hH⟩ := h
  exact ⟨a, s, h1, h2, hH.call hb⟩
theorem Cur.mono {w : World} {C : Nat} {A : Option Addr} {n cp m m' : Nat} (h : Cur w C A n cp m) (hm : m ≤ m') : Cur w C A n cp m' := by
  obtain ⟨a, s, h1, h2, hH⟩ := h
  exact ⟨a, s, Nat.le_trans h1 hm, h2, hH⟩
theorem Cur.lt {w : World} {C : Nat} {A : Option Addr} {n cp m : Nat} (h : Cur w C A n cp m) : C < w.heap.size := by
  obtain ⟨_, _, _, _, hH⟩ := h
  exact hH.2.2
theorem info_u64 : (Try.prog.info? 78).map (·.size) = some 1 := by kernel_rfl
theorem store_u64 {ops : Array Oper} {rest : List Oper} {op : Oper} {a : Act} {w : World} {Q : Exit → Act → World → Prop} (hgd : op.guard = none) (x y : Operand) (ho : op.op = .store 78 x y)
    (b o : Nat) (v : Int) (hx : a.eval x = .pointer (some ⟨b, o, none⟩)) (hy : a.eval y = .int .u64 v) {n : Nat} {c : Nat → Value} (hH : Has w b n c) (hle : o < n)
    (h : ∀ w2, Only b w w2 → Has w2 b n (fun j => if j = o then .int .u64 v else c j) → wpList Try.prog ops Q rest (a.put op.dst undef) w2) : wpList Try.prog ops Q (op :: rest) a w :=
  store_one 78 info_u64 hgd x y ho b o _ hx hy rfl hH hle h

theorem gr_set2 (w : World) (C n : Nat) (u v : Value) : w.grownBy (((w.drewN n).setCell ⟨C, 1, none⟩ u).setCell ⟨C, 2, none⟩ v) (some C) :=
  gr_trans (gr_drewN (w := w) (some C) n) (gr_only ((only_setCell (w.drewN n) C 1 u).trans (only_setCell _ C 2 v)))
theorem and_255 (s : Int) (h : 0 ≤ s ∧ s ≤ 18446744073709551615) : ∃ V : Nat, V ≤ 255 ∧ bits BinOp.and IntKind.u64 (s / 1099511627776) 255 = (V : Int) := by
  obtain ⟨q, hq⟩ : ∃ q : Nat, s / 1099511627776 = (q : Int) := ⟨(s / 1099511627776).toNat, by omega⟩
  refine ⟨q &&& 255, Nat.and_le_right, ?_⟩
  rw [hq]
  exact bits_and_u64_nat q 255 (by omega) (by decide)
theorem u64_range (x : Int) : 0 ≤ IntKind.u64.wrap x ∧ IntKind.u64.wrap x ≤ 18446744073709551615 := by
  show 0 ≤ x % 18446744073709551616 ∧ x % 18446744073709551616 ≤ 18446744073709551615
  omega
theorem cur_set {A : Option Addr} {n cp a : Nat} {s S : Int} (o : Nat) (ho : o < 3) : (if o = 2 then Value.int .u64 S else if o = 1 then .int .i64 ((a : Int) + 1) else CurC A n cp a s o) = CurC A n cp (a + 1) S o := by
  rcases (by omega : o = 0 ∨ o = 1 ∨ o = 2) with rfl | rfl | rfl <;> rfl

theorem cur_next {w : World} {C : Nat} {A : Option Addr} {n cp a : Nat} {s : Int} (h : Has w C 3 (CurC A n cp a s)) (k : Nat) (z : Int) : ∃ s', (0 ≤ s' ∧ s' ≤ 18446744073709551615) ∧ Has (((w.drewN k).setCell ⟨C, 1, none⟩ (.int .i64 ((a : Int) + 1))).setCell ⟨C, 2, none⟩ (.int .u64 (IntKind.u64.wrap z))) C 3 (CurC A n cp (a + 1) s') :=
  ⟨_, u64_range z, (Has.set (Has.set (Has.drewN h k))).congr fun o ho => cur_set o ho⟩

set_option maxHeartbeats 4000000 in
set_option maxRecDepth 100000 in
theorem next_any (C : Nat) (A : Option Addr) (n cp m : Nat) (x : Nat → Nat) (hn : n ≤ 65536) (hm : m ≤ 1000000) (w : World) (hA : ArgB w A n x) (hAC : ∀ b off, 0 < n → A = some ⟨b, off, none⟩ → b ≠ C) (hC : Cur w C A n cp m) :
    Calls Try.prog 128 #[.pointer (some ⟨C, 0, none⟩)] w fun e w' => ∃ v : Nat, e = .returned (.int .i64 (v : Int)) ∧ v ≤ 255 ∧ Cur w' C A n cp (m + 1) ∧ w.grownBy w' (some C) := by
  obtain ⟨a, s, ha, hs, hH⟩ := hC
  have q0 : w.cell? ⟨C, 0, none⟩ = some (.slice A n cp) := hH.1 0 (by omega)
  have q1 : w.cell? ⟨C, 1, none⟩ = some (.int .i64 (a : Int)) := hH.1 1 (by omega)
  have q2 : w.cell? ⟨C, 2, none⟩ = some (.int .u64 s) := hH.1 2 (by omega)
  have HH := hide hH
  have hzC := hH.2.2
  have hfC := hH.2.1
  have a0 : (0 : Int) ≤ a := by omega
  clear hH
  by_cases hlt : a < n
  · have a1 : (a : Int) < n := by omega
    obtain ⟨b, off, rfl, hbw, hc⟩ := hA (by omega)
    obtain ⟨hc1, hc2⟩ := hc a hlt
    obtain ⟨y, hy⟩ : ∃ y, y = x a := ⟨_, rfl⟩
    rw [← hy] at hc1 hc2
    clear hc hy hA hAC
    go_enter Try.func128, Try.ntmps128
    go_wp2_with fail
    go_quiet (fail)
    go_wp2_with fail
    go_quiet (fail)
    go_upto_region 6 with (fail)
    generalize hWN : World.setCell (World.setCell _ _ _) _ _ = wz
    have G0 : w.grownBy wz (some C) := by (rw [← hWN]; exact gr_set2 _ _ _ _ _)
    have hex : ∃ s', (0 ≤ s' ∧ s' ≤ 18446744073709551615) ∧ Has wz C 3 (CurC (some ⟨b, off, none⟩) n cp (a + 1) s') := by
      rw [← hWN]
      exact cur_next HH.out _ _
    obtain ⟨s', hs', j0⟩ := hex
    have r0 : wz.cell? ⟨C, 0, none⟩ = some (.slice (some ⟨b, off, none⟩) n cp) := j0.1 0 (by omega)
    have r1 : wz.cell? ⟨C, 1, none⟩ = some (.int .i64 ((a : Int) + 1)) := j0.1 1 (by omega)
    have HJ := hide j0
    have HG := hide G0
    clear hWN q0 q1 q2 hc1 j0 G0
    have a2 : (a : Int) + 1 ≤ n := by omega
    go_quiet (fail)
    go_wp2_with fail
    go_ret
    exact ⟨y, rfl, hc2, ⟨a + 1, s', by omega, hs', Has.drewN HJ.out _⟩, gr_trans HG.out (gr_drewN _ _)⟩
  · have a1 : ¬ (a : Int) < n := by omega
    clear hA hAC
    go_enter Try.func128, Try.ntmps128
    go_wp2_with fail
    go_quiet (fail)
    go_upto_region 6 with (fail)
    generalize hWN : World.setCell (World.setCell _ _ _) _ _ = wz
    have G0 : w.grownBy wz (some C) := by (rw [← hWN]; exact gr_set2 _ _ _ _ _)
    have hex : ∃ s', (0 ≤ s' ∧ s' ≤ 18446744073709551615) ∧ Has wz C 3 (CurC A n cp (a + 1) s') := by
      rw [← hWN]
      exact cur_next HH.out _ _
    obtain ⟨s', hs', j0⟩ := hex
    have r0 : wz.cell? ⟨C, 0, none⟩ = some (.slice A n cp) := j0.1 0 (by omega)
    have r1 : wz.cell? ⟨C, 1, none⟩ = some (.int .i64 ((a : Int) + 1)) := j0.1 1 (by omega)
    have r2 : wz.cell? ⟨C, 2, none⟩ = some (.int .u64 s') := j0.1 2 (by omega)
    have HJ := hide j0
    have HG := hide G0
    clear hWN q0 q1 q2 j0 G0
    have a2 : ¬ (a : Int) + 1 ≤ n := by omega
    obtain ⟨V, hV, hv⟩ := and_255 s' hs'
    go_quiet (fail)
    go_wp2_with fail
    go_ret
    exact ⟨V, rfl, hV, ⟨a + 1, s', by omega, hs', Has.drewN HJ.out _⟩, gr_trans HG.out (gr_drewN _ _)⟩

set_option maxHeartbeats 4000000 in
set_option maxRecDepth 100000 in
theorem pick_any (C : Nat) (A : Option Addr) (n cp m k : Nat) (x : Nat → Nat) (hn : n ≤ 65536) (hm : m ≤ 1000000) (hk : 2 ≤ k) (hk2 : k ≤ 200) (w : World) (hA : ArgB w A n x) (hAC : ∀ b off, 0 < n → A = some ⟨b, off, none⟩ → b ≠ C) (hC : Cur w C A n cp m) :
    Calls Try.prog 95 #[.pointer (some ⟨C, 0, none⟩), .int .i64 (k : Int)] w fun e w' => ∃ v : Nat, e = .returned (.int .i64 (v : Int)) ∧ v < k ∧ Cur w' C A n cp (m + 1) ∧ w.grownBy w' (some C) := by
  have HN := hide (next_any C A n cp m x hn hm w hA hAC hC)
  have k1 : ¬ (k : Int) ≤ 1 := by omega
  have k2 : ¬ (200 : Int) < k := by omega
  have k3 : ¬ (k : Int) = 0 := by omega
  clear hA hAC hC
  go_enter Try.func95, Try.ntmps95
  go_upto_region 4 with ((go_at_call 128); (with_reducible refine HN.out.mono ?_); rintro e w2 ⟨v, rfl, hv, hC2, hG2⟩)
  go_wp2_with fail
  go_ret
  exact ⟨v % k, ret_int (by simp), Nat.mod_lt _ (by omega), hC2, hG2⟩

set_option maxHeartbeats 4000000 in
set_option maxRecDepth 100000 in
theorem among_any (C : Nat) (A : Option Addr) (n cp m k g c : Nat) (f : Nat → Int) (x : Nat → Nat) (hn : n ≤ 65536) (hm : m ≤ 1000000) (hk : 2 ≤ k) (hk2 : k ≤ 200) (w : World) (hA : ArgB w A n x) (hAC : ∀ b off, 0 < n → A = some ⟨b, off, none⟩ → b ≠ C) (hC : Cur w C A n cp m) (hL : Has w g k (fun o => .int .i64 (f o))) (hgC : g ≠ C) :
    Calls Try.prog 96 #[.pointer (some ⟨C, 0, none⟩), .slice (some ⟨g, 0, none⟩) k c] w fun e w' => ∃ i : Nat, e = .returned (.int .i64 (f i)) ∧ i < k ∧ Cur w' C A n cp (m + 1) ∧ w.grownBy w' (some C) := by
  have HP := hide (pick_any C A n cp m k x hn hm hk hk2 w hA hAC hC)
  have HL := hide hL
  clear hA hAC hC hL
  go_enter Try.func96, Try.ntmps96
  go_wp2_with ((go_at_call 95); (with_reducible refine HP.out.mono ?_); rintro e w2 ⟨v, rfl, hv, hC2, hG2⟩; have hvi : (v : Int) < k := (by omega); have hv0 : (0 : Int) ≤ v := (by omega); have q1 : w2.cell? ⟨g, v, none⟩ = some (.int .i64 (f v)) := (HL.out.grown hG2 (fun he => hgC (Option.some.inj he).symm)).1 v hv)
  go_ret
  exact ⟨v, rfl, hv, hC2, hG2⟩

end Go.Proofs.Ytegdnfmhhigjfaa

namespace Go.Proofs.Ytegdnfmhhigjfaa
open Go.RowKit

theorem among_new (C : Nat) (A : Option Addr) (n cp m : Nat) (x : Nat → Nat) (hn : n ≤ 65536) (hm : m ≤ 1000000) (L : List Int) (hk : 2 ≤ L.length) (hk2 : L.length ≤ 200) (cs : Array Value) (T k : Nat) (hkL : k = L.length) (hcs : cs = (L.map fun t => Value.int .i64 t).toArray) (w : World) (hA : ArgB w A n x) (hAC : ∀ b off, 0 < n → A = some ⟨b, off, none⟩ → b ≠ C) (hC : Cur w C A n cp m) :
    Calls Try.prog 96 #[.pointer (some ⟨C, 0, none⟩), .slice (some ⟨w.heap.size, 0, none⟩) k k] (w.alloc (.cells cs T)) fun e w' => ∃ t, t ∈ L ∧ e = .returned (.int .i64 t) ∧ Cur w' C A n cp (m + 1) ∧ w.grownBy w' (some C) := by
  subst hkL hcs
  have hb : Below w.heap.size w (w.alloc (.cells (L.map fun t => Value.int .i64 t).toArray T)) := below_new (Below.refl _ _) _
  have hL : Has (w.alloc (.cells (L.map fun t => Value.int .i64 t).toArray T)) w.heap.size L.length (fun o => .int .i64 (L.getD o 0)) :=
    (Has.new' (n := L.length) (by simp)).congr fun o ho => by simp [List.getD, ho]
  refine (among_any C A n cp m L.length w.heap.size L.length (fun o => L.getD o 0) x hn hm hk hk2 _ (hA.call hb) hAC (hC.call hb) hL (by have := hC.lt; omega)).mono ?_
  rintro e w' ⟨i, rfl, hi, hC2, hG⟩
  exact ⟨L.getD i 0, by simp [List.getD, hi], rfl, hC2, gr_trans (gr_below _ hb) hG⟩

set_option maxHeartbeats 4000000 in
set_option maxRecDepth 100000 in
theorem tile_any (C : Nat) (A : Option Addr) (n cp m : Nat) (x : Nat → Nat) (hn : n ≤ 65536) (hm : m ≤ 1000000) (w : World) (hA : ArgB w A n x) (hAC : ∀ b off, 0 < n → A = some ⟨b, off, none⟩ → b ≠ C) (hC : Cur w C A n cp m) :
    Calls Try.prog 106 #[.pointer (some ⟨C, 0, none⟩)] w fun e w' => ∃ t : Int, e = .returned (.int .i64 t) ∧ (0 ≤ t ∧ t ≤ 5) ∧ Cur w' C A n cp (m + 1) ∧ w.grownBy w' (some C) := by
  have HP := hide (fun cs T k hkL hcs => among_new C A n cp m x hn hm [1, 2, 0, 1, 3, 0, 2, 1, 4, 5, 0] (by decide) (by decide) cs T k hkL hcs w hA hAC hC)
  clear hA hAC hC
  go_enter Try.func106, Try.ntmps106
  go_wp2_with ((go_at_call 96); (refine (HP.out _ _ _ rfl rfl).mono ?_); rintro e w2 ⟨t, ht, rfl, hC2, hG2⟩)
  go_ret
  refine ⟨t, rfl, ?_, hC2, hG2⟩
  simp only [List.mem_cons, List.not_mem_nil, or_false] at ht
  omega

end Go.Proofs.Ytegdnfmhhigjfaa

namespace Go.Proofs.Ytegdnfmhhigjfaa
open Go.RowKit

/-- Block C holds a reader over the n bytes x at A, which it has not laid itself; it has read at most m. -/
def Rd (w : World) (C : Nat) (A : Option Addr) (n cp m : Nat) (x : Nat → Nat) : Prop := ArgB w A n x ∧ (∀ b off, 0 < n → A = some ⟨b, off, none⟩ → b ≠ C) ∧ Cur w C A n cp m
theorem Rd.call {w w2 : World} {C : Nat} {A : Option Addr} {n cp m : Nat} {x : Nat → Nat} (h : Rd w C A n cp m x) (hb : Below w.heap.size w w2) : Rd w2 C A n cp m x := ⟨h.1.call hb, h.2.1, h.2.2.call hb⟩
theorem Rd.next {w w2 : World} {C : Nat} {A : Option Addr} {n cp m m' : Nat} {x : Nat → Nat} (h : Rd w C A n cp m x) (hg : w.grownBy w2 (some C)) (hc : Cur w2 C A n cp m') : Rd w2 C A n cp m' x :=
  ⟨h.1.grown hg (fun b off h0 e he => h.2.1 b off h0 e (Option.some.inj he).symm), h.2.1, hc⟩
theorem Rd.lt {w : World} {C : Nat} {A : Option Addr} {n cp m : Nat} {x : Nat → Nat} (h : Rd w C A n cp m x) : C < w.heap.size := h.2.2.lt
theorem Rd.mono {w : World} {C : Nat} {A : Option Addr} {n cp m m' : Nat} {x : Nat → Nat} (h : Rd w C A n cp m x) (hm : m ≤ m') : Rd w C A n cp m' x := ⟨h.1, h.2.1, h.2.2.mono hm⟩
theorem Rd.only {w w2 : World} {C B : Nat} {A : Option Addr} {n cp m : Nat} {x : Nat → Nat} (h : Rd w C A n cp m x) (ho : Only B w w2) (hB : B ≠ C) (hA : ∀ b off, 0 < n → A = some ⟨b, off, none⟩ → b ≠ B) : Rd w2 C A n cp m x := by
  obtain ⟨a, s, h1, h2, hH⟩ := h.2.2
  exact ⟨h.1.grown (gr_only ho) (fun b off h0 e he => hA b off h0 e (Option.some.inj he).symm), h.2.1, a, s, h1, h2, hH.only ho (fun e => hB e.symm)⟩
/-- A reader just made. -/
theorem rd_new {w : World} {A : Option Addr} {n cp : Nat} {x : Nat → Nat} (h : ArgB w A n x) (T : TypeId) (m : Nat) : Rd (w.alloc (.cells #[.slice A n cp, .int .i64 0, .int .u64 0] T)) w.heap.size A n cp m x := by
  refine ⟨h.call (below_new (Below.refl _ _) _), fun b off h0 e he => ?_, 0, 0, Nat.zero_le _, ⟨by omega, by omega⟩, (Has.new' (n := 3) rfl).congr fun o ho => ?_⟩
  · obtain ⟨b', off', e', hlt, _⟩ := h h0
    rw [e'] at e
    cases e
    omega
  · rcases (by omega : o = 0 ∨ o = 1 ∨ o = 2) with rfl | rfl | rfl <;> rfl

theorem pick_rd {C : Nat} {A : Option Addr} {n cp m : Nat} {x : Nat → Nat} (k : Nat) (hn : n ≤ 65536) (hm : m ≤ 1000000) (hk : 2 ≤ k) (hk2 : k ≤ 200) {w : World} (h : Rd w C A n cp m x) :
    Calls Try.prog 95 #[.pointer (some ⟨C, 0, none⟩), .int .i64 (k : Int)] w fun e w' => ∃ v : Nat, e = .returned (.int .i64 (v : Int)) ∧ v < k ∧ Rd w' C A n cp (m + 1) x ∧ w.grownBy w' (some C) :=
  (pick_any C A n cp m k x hn hm hk hk2 w h.1 h.2.1 h.2.2).mono fun _ _ ⟨v, e, hv, hC, hG⟩ => ⟨v, e, hv, h.next hG hC, hG⟩
theorem among_rd {C : Nat} {A : Option Addr} {n cp m : Nat} {x : Nat → Nat} (L : List Int) (hn : n ≤ 65536) (hm : m ≤ 1000000) (hk : 2 ≤ L.length) (hk2 : L.length ≤ 200) {w : World} (h : Rd w C A n cp m x) (cs : Array Value) (T k : Nat) (hkL : k = L.length) (hcs : cs = (L.map fun t => Value.int .i64 t).toArray) :
    Calls Try.prog 96 #[.pointer (some ⟨C, 0, none⟩), .slice (some ⟨w.heap.size, 0, none⟩) k k] (w.alloc (.cells cs T)) fun e w' => ∃ t, t ∈ L ∧ e = .returned (.int .i64 t) ∧ Rd w' C A n cp (m + 1) x ∧ w.grownBy w' (some C) :=
  (among_new C A n cp m x hn hm L hk hk2 cs T k hkL hcs w h.1 h.2.1 h.2.2).mono fun _ _ ⟨t, ht, e, hC, hG⟩ => ⟨t, ht, e, h.next hG hC, hG⟩
theorem tile_rd {C : Nat} {A : Option Addr} {n cp m : Nat} {x : Nat → Nat} (hn : n ≤ 65536) (hm : m ≤ 1000000) {w : World} (h : Rd w C A n cp m x) :
    Calls Try.prog 106 #[.pointer (some ⟨C, 0, none⟩)] w fun e w' => ∃ t : Int, e = .returned (.int .i64 t) ∧ (0 ≤ t ∧ t ≤ 5) ∧ Rd w' C A n cp (m + 1) x ∧ w.grownBy w' (some C) :=
  (tile_any C A n cp m x hn hm w h.1 h.2.1 h.2.2).mono fun _ _ ⟨t, e, ht, hC, hG⟩ => ⟨t, e, ht, h.next hG hC, hG⟩

end Go.Proofs.Ytegdnfmhhigjfaa

namespace Go.Proofs.Ytegdnfmhhigjfaa
open Go.RowKit

set_option maxHeartbeats 4000000 in
set_option maxRecDepth 100000 in
theorem one_rd {C : Nat} {A : Option Addr} {n cp m : Nat} {x : Nat → Nat} (k : Nat) (hn : n ≤ 65536) (hm : m ≤ 1000000) (hk : 2 ≤ k) (hk2 : k ≤ 200) {w : World} (h : Rd w C A n cp m x) :
    Calls Try.prog 94 #[.pointer (some ⟨C, 0, none⟩), .int .i64 (k : Int)] w fun e w' => ∃ b : Bool, e = .returned (.bool b) ∧ Rd w' C A n cp (m + 1) x ∧ w.grownBy w' (some C) := by
  have HP := hide (pick_rd k hn hm hk hk2 h)
  clear h
  go_enter Try.func94, Try.ntmps94
  go_wp2_with ((go_at_call 95); (with_reducible refine HP.out.mono ?_); rintro e w2 ⟨v, rfl, hv, hR, hG⟩)
  go_ret
  exact ⟨_, rfl, hR, hG⟩

set_option maxHeartbeats 4000000 in
set_option maxRecDepth 100000 in
theorem side_rd {C : Nat} {A : Option Addr} {n cp m : Nat} {x : Nat → Nat} (hn : n ≤ 65536) (hm : m ≤ 900000) {w : World} (h : Rd w C A n cp m x) :
    Calls Try.prog 72 #[.pointer (some ⟨C, 0, none⟩)] w fun e w' => ∃ d : Int, e = .returned (.int .i64 d) ∧ (-1 ≤ d ∧ d ≤ 4611686018427387904) ∧ Rd w' C A n cp (m + 2) x ∧ w.grownBy w' (some C) := by
  have HP := hide (one_rd 40 hn (by omega) (by decide) (by decide) h)
  clear h
  go_enter Try.func72, Try.ntmps72
  go_wp2_with (first | ((go_at_call 94); (refine HP.out.mono ?_); rintro e w2 ⟨b, rfl, hR, hG⟩) | ((go_at_call 95); (refine (pick_rd 4 hn (by omega) (by decide) (by decide) hR).mono ?_); rintro e w3 ⟨v, rfl, hv, hR2, hG2⟩) | ((go_at_call 96); (refine (among_rd [-1, 4, 4611686018427387904] hn (by omega) (by decide) (by decide) hR _ _ _ rfl rfl).mono ?_); rintro e w3 ⟨t, ht, rfl, hR2, hG2⟩))
  · go_ret
    refine ⟨t, rfl, ?_, hR2, gr_trans hG hG2⟩
    simp only [List.mem_cons, List.not_mem_nil, or_false] at ht
    omega
  · go_ret
    exact ⟨(v : Int), rfl, by omega, hR2, gr_trans hG hG2⟩

set_option maxHeartbeats 4000000 in
set_option maxRecDepth 100000 in
theorem form3_rd {C : Nat} {A : Option Addr} {n cp m : Nat} {x : Nat → Nat} (hn : n ≤ 65536) (hm : m ≤ 900000) {w : World} (h : Rd w C A n cp m x) :
    Calls Try.prog 61 #[.pointer (some ⟨C, 0, none⟩)] w fun e w' => ∃ d : Int, e = .returned (.int .i64 d) ∧ (-1 ≤ d ∧ d ≤ 4611686018427387904) ∧ Rd w' C A n cp (m + 2) x ∧ w.grownBy w' (some C) := by
  have HP := hide (one_rd 40 hn (by omega) (by decide) (by decide) h)
  clear h
  go_enter Try.func61, Try.ntmps61
  go_wp2_with (first | ((go_at_call 94); (refine HP.out.mono ?_); rintro e w2 ⟨b, rfl, hR, hG⟩) | ((go_at_call 95); (refine (pick_rd 8 hn (by omega) (by decide) (by decide) hR).mono ?_); rintro e w3 ⟨v, rfl, hv, hR2, hG2⟩) | ((go_at_call 96); (refine (among_rd [-1, 8, 4611686018427387904] hn (by omega) (by decide) (by decide) hR _ _ _ rfl rfl).mono ?_); rintro e w3 ⟨t, ht, rfl, hR2, hG2⟩))
  · go_ret
    refine ⟨t, rfl, ?_, hR2, gr_trans hG hG2⟩
    simp only [List.mem_cons, List.not_mem_nil, or_false] at ht
    omega
  · go_ret
    exact ⟨(v : Int), rfl, by omega, hR2, gr_trans hG hG2⟩

end Go.Proofs.Ytegdnfmhhigjfaa

namespace Go.Proofs.Ytegdnfmhhigjfaa
open Go.RowKit

def inB (n lo hi : Int) : Bool := decide (lo ≤ n ∧ n ≤ hi)
def rowB (a b c d : Int) : Bool := inB a 0 17 && (inB b 0 17 && (inB c 0 17 && inB d 0 17))

theorem in_any (n lo hi : Int) (w : World) : Calls Try.prog 78 #[.int .i64 n, .int .i64 lo, .int .i64 hi] w fun e w' => e = .returned (.bool (inB n lo hi)) ∧ w = w' := by
  go_enter Try.func78, Try.ntmps78
  go_wp2
  all_goals
    go_ret
    refine ⟨ret_bool ?_, rfl⟩
    simp [inB]; omega

theorem l1In_any (n lo hi : Int) (w : World) : Calls Try.prog 105 #[.int .i64 n, .int .i64 lo, .int .i64 hi] w fun e w' => e = .returned (.bool (inB n lo hi)) ∧ w = w' := by
  go_enter Try.func105, Try.ntmps105
  go_wp2
  all_goals
    go_ret
    refine ⟨ret_bool ?_, rfl⟩
    simp [inB]; omega

set_option maxHeartbeats 1000000 in
theorem isRow_any (a b c d : Int) (w : World) :
    Calls Try.prog 85 #[.agg #[.int .i64 a, .int .i64 b, .int .i64 c, .int .i64 d]] w fun e w' => e = .returned (.bool (rowB a b c d)) ∧ Below w.heap.size w w' := by
  go_enter Try.func85, Try.ntmps85
  go_wp2
  refine wp_loop_rounds 5 ?_
  repeat any_goals (rw [rounds_succ]; go_wp2_with (first | (go_at_call 78; refine (in_any _ _ _ _).mono ?_; rintro e w' ⟨rfl, rfl⟩) | go_in))
  all_goals
    go_ret
    refine ⟨ret_bool ?_, (Below.refl _ _).alloc (Nat.le_refl _) _⟩
    simp_all [rowB]

end Go.Proofs.Ytegdnfmhhigjfaa
