/-
  Small words: how a world grows, blocks that are known.
-/
import Derived.Test.YtegdnfmhhigjfaaProg
import Derived.WalkKit
import Derived.WalkSpells
import Derived.WalkLawsBesides
import Derived.Handy
import Derived.Outline
import Derived.Deep.QuietTactic
import Derived.BigQuiet
import Derived.StillTailTactics
import Derived.Deep.MidRow
namespace Go.Proofs.Ytegdnfmhhigjfaa
open Go.RowKit

theorem hide {p : Prop} (h : p) : Hid p := h
theorem ret_bool {a b : Bool} (h : a = b) : Ending.returned (.bool a) = .returned (.bool b) := by rw [h]
theorem ret_int {k : IntKind} {a b : Int} (h : a = b) : Ending.returned (.int k a) = .returned (.int k b) := by rw [h]

theorem bcell {W w1 : World} (hb : Below W.heap.size W w1) : (∀ b o, b < W.heap.size → w1.cell? ⟨b, o, none⟩ = W.cell? ⟨b, o, none⟩) ∧ (∀ b o, b < W.heap.size → w1.frozen? ⟨b, o, none⟩ = W.frozen? ⟨b, o, none⟩) :=
  ⟨fun b o h => hb.cell (p := ⟨b, o, none⟩) h, fun b o h => hb.frozen (p := ⟨b, o, none⟩) h⟩

theorem below_go {w a b : World} (h : Below w.heap.size w a) (k : Below a.heap.size a b) : Below w.heap.size w b := h.trans (k.mono h.size)
theorem below_new {w a : World} (h : Below w.heap.size w a) (o : Obj) : Below w.heap.size w (a.alloc o) := h.alloc h.size o
theorem below_dn {w a : World} (h : Below w.heap.size w a) (n : Nat) : Below w.heap.size w (a.drewN n) := ⟨h.os, h.tape, h.output, h.size, h.block⟩
theorem below_put {w a : World} (h : Below w.heap.size w a) {p : Addr} (hp : w.heap.size ≤ p.block) (u : Value) : Below w.heap.size w (a.setCell p u) := h.setCell hp u

/-- Block B holds the n cells c, and may be written. -/
def Has (w : World) (B n : Nat) (c : Nat → Value) : Prop :=
  (∀ o, o < n → w.cell? ⟨B, o, none⟩ = some (c o)) ∧ (∀ o, w.frozen? ⟨B, o, none⟩ = false) ∧ B < w.heap.size

theorem Has.call {W w2 : World} {B n : Nat} {c : Nat → Value} (h : Has W B n c) (hb : Below W.heap.size W w2) : Has w2 B n c :=
  ⟨fun o ho => (hb.cell (p := ⟨B, o, none⟩) h.2.2).trans (h.1 o ho), fun o => (hb.frozen (p := ⟨B, o, none⟩) h.2.2).trans (h.2.1 o), Nat.lt_of_lt_of_le h.2.2 hb.size⟩
theorem Has.alloc {W : World} {B n : Nat} {c : Nat → Value} (h : Has W B n c) (o : Obj) : Has (W.alloc o) B n c :=
  h.call ((Below.refl _ _).alloc (Nat.le_refl _) _)
theorem Has.drew {W : World} {B n : Nat} {c : Nat → Value} (h : Has W B n c) : Has W.drew B n c := h.call ((Below.refl _ _).drew)
theorem Has.drewN {W : World} {B n : Nat} {c : Nat → Value} (h : Has W B n c) (m : Nat) : Has (W.drewN m) B n c := h.call (below_dn (Below.refl _ _) m)
theorem Has.new {w : World} {cs : Array Value} {T : TypeId} {B n : Nat} {c : Nat → Value} (hB : B = w.heap.size) (hcs : cs = ((List.range n).map c).toArray) : Has (w.alloc (.cells cs T)) B n c := by
  subst hB hcs
  have hg : (w.alloc (.cells ((List.range n).map c).toArray T)).heap[w.heap.size]? = some (.cells ((List.range n).map c).toArray T (0, 0)) := heap_alloc_new w _
  refine ⟨fun o ho => ?_, fun o => ?_, by simp⟩
  · rw [cell_of_row _ _ _ _ _ _ hg]; simp [ho]
  · exact frozen_of_row _ _ _ _ _ hg
theorem Has.new' {w : World} {cs : Array Value} {T : TypeId} {n : Nat} (hn : cs.size = n) : Has (w.alloc (.cells cs T)) w.heap.size n (fun o => cs.getD o undef) := by
  subst hn
  refine Has.new rfl ?_
  apply Array.ext
  · simp
  · intro i h1 h2; simp [h1]
theorem Has.at {W w1 : World} (hW : W = w1) {B n : Nat} {c : Nat → Value} (h : Has W B n c) : Has w1 B n c := hW ▸ h
theorem Has.newat {w w1 : World} {cs : Array Value} {T : TypeId} {n : Nat} (hW : w.alloc (.cells cs T) = w1) (hn : cs.size = n) : Has w1 w.heap.size n (fun o => cs.getD o undef) := hW ▸ Has.new' hn
theorem Has.other {W : World} {B n : Nat} {c : Nat → Value} (h : Has W B n c) {p : Addr} {v : Value} (hne : B ≠ p.block) : Has (W.setCell p v) B n c := by
  have e : (W.setCell p v).heap[B]? = W.heap[B]? := Below.heap_setCell _ _ _ _ hne
  exact ⟨fun o ho => (World.cell?_of_block (a := ⟨B, o, none⟩) e).trans (h.1 o ho), fun o => (World.frozen?_of_block (a := ⟨B, o, none⟩) e).trans (h.2.1 o), by simpa [World.setCell] using h.2.2⟩
theorem Has.set {W : World} {B n i : Nat} {c : Nat → Value} {v : Value} (h : Has W B n c) : Has (W.setCell ⟨B, i, none⟩ v) B n (fun o => if o = i then v else c o) := by
  refine ⟨fun o ho => ?_, fun o => ?_, by simpa [World.setCell] using h.2.2⟩
  · by_cases e : o = i
    · subst e
      refine (World.cell?_setCell_same W ⟨B, o, none⟩ v (h.1 o ho)).trans ?_
      simp
    · rw [World.cell?_setCell_other]
      · exact (h.1 o ho).trans (by simp [e])
      · intro hh; injection hh with _ h2 _; exact e h2.symm
  · rw [World.frozen?_setCell]; exact h.2.1 o
theorem Has.congr {W : World} {B n : Nat} {c d : Nat → Value} (h : Has W B n c) (e : ∀ o, o < n → c o = d o) : Has W B n d :=
  ⟨fun o ho => (h.1 o ho).trans (by rw [e o ho]), h.2⟩

/-- Outside block B nothing has turned. -/
structure Only (B : Nat) (w w' : World) : Prop where
  os : w'.os = w.os
  tape : w'.tape = w.tape
  output : w'.output = w.output
  size : w'.heap.size = w.heap.size
  block : ∀ k, k ≠ B → w'.heap[k]? = w.heap[k]?
theorem Only.trans {B : Nat} {a b c : World} (h : Only B a b) (k : Only B b c) : Only B a c :=
  ⟨k.os.trans h.os, k.tape.trans h.tape, k.output.trans h.output, k.size.trans h.size, fun i hi => (k.block i hi).trans (h.block i hi)⟩
theorem only_setCell (w : World) (B i : Nat) (v : Value) : Only B w (w.setCell ⟨B, i, none⟩ v) :=
  ⟨rfl, rfl, rfl, by simp [World.setCell], fun k hk => Below.heap_setCell _ _ _ _ hk⟩
theorem only_setCells (w : World) (B : Nat) (i : Nat) (vs : List Value) : Only B w (w.setCells B i vs) := by
  induction vs generalizing w i with
  | nil => exact ⟨rfl, rfl, rfl, rfl, fun _ _ => rfl⟩
  | cons v r ih => exact (only_setCell w B i v).trans (ih _ _)
theorem below_only {w a a' : World} {B : Nat} (h : Below w.heap.size w a) (k : Only B a a') (hB : w.heap.size ≤ B) : Below w.heap.size w a' :=
  h.trans ⟨k.os, k.tape, k.output, Nat.le_of_eq k.size.symm, fun i hi => k.block i (by omega)⟩
theorem Has.only {W w2 : World} {B B' n : Nat} {c : Nat → Value} (h : Has W B n c) (k : Only B' W w2) (hne : B ≠ B') : Has w2 B n c :=
  ⟨fun o ho => (World.cell?_of_block (a := ⟨B, o, none⟩) (k.block B hne)).trans (h.1 o ho), fun o => (World.frozen?_of_block (a := ⟨B, o, none⟩) (k.block B hne)).trans (h.2.1 o), by rw [k.size]; exact h.2.2⟩
theorem Has.range {w : World} {B n o : Nat} {c : Nat → Value} (h : Has w B n c) (m : Nat) {cs : List Value} (hle : o + m ≤ n) (hcs : cs = (List.range m).map (fun j => c (o + j)) := by rfl) : w.rangeAt B o cs := by
  intro j v hv
  subst hcs
  by_cases hj : j < m
  · simp [hj] at hv
    rw [h.1 (o + j) (by omega), hv]
  · simp [hj] at hv
theorem Has.there {w : World} {B n o : Nat} {c : Nat → Value} (h : Has w B n c) (m : Nat) (hle : o + m ≤ n) : w.there B o m :=
  fun j hj => ⟨by rw [h.1 (o + j) (by omega)]; rfl, h.2.1 _⟩
theorem Has.sets {w : World} {B n o : Nat} {c : Nat → Value} (h : Has w B n c) (vs : List Value) (hle : o + vs.length ≤ n) : Has (w.setCells B o vs) B n (fun j => if o ≤ j ∧ j < o + vs.length then vs.getD (j - o) undef else c j) := by
  refine ⟨fun j hj => ?_, fun j => ?_, by rw [(only_setCells w B o vs).size]; exact h.2.2⟩
  · by_cases hin : o ≤ j ∧ j < o + vs.length
    · obtain ⟨i, rfl⟩ : ∃ i, j = o + i := ⟨j - o, by omega⟩
      have hi : i < vs.length := by omega
      rw [World.cell?_setCells_in B vs o w (fun i hi => (h.there vs.length hle i hi).1) i hi]
      simp [hi]
    · rw [World.cell?_setCells_out B vs o w ⟨B, j, none⟩ (fun _ _ => by simp only []; omega)]
      rw [h.1 j hj]
      simp only [hin, if_false]
  · rw [World.frozen?_setCells]; exact h.2.1 j

theorem results_cell {P : Program} {fn : Func} {p : Tmp} {ty : TypeId} {tmps : Array Value} {w : World} {b : Nat} {v : Value} (h : fn.results = #[.cell p ty]) (hp : tmps.getD p undef = .pointer (some ⟨b, 0, none⟩))
    (hl : (loadVar ty ⟨b, 0, none⟩).run P w = .ok v w) : (results fn tmps).run P w = .ok v w := by
  have hp' : tmps[p]?.getD undef = .pointer (some ⟨b, 0, none⟩) := by simpa using hp
  simp [results, h, hp', asAddr, hl]
theorem results_cell_t {P : Program} {fn : Func} {p q : Tmp} {ty : TypeId} {tmps : Array Value} {w : World} {b : Nat} {v : Value} (h : fn.results = #[.cell p ty, .tmp q]) (hp : tmps.getD p undef = .pointer (some ⟨b, 0, none⟩))
    (hl : (loadVar ty ⟨b, 0, none⟩).run P w = .ok v w) : (results fn tmps).run P w = .ok (.tuple #[v, tmps.getD q undef]) w := by
  have hp' : tmps[p]?.getD undef = .pointer (some ⟨b, 0, none⟩) := by simpa using hp
  simp [results, h, hp', asAddr, hl]
theorem results_cell_tt {P : Program} {fn : Func} {p q r : Tmp} {ty : TypeId} {tmps : Array Value} {w : World} {b : Nat} {v : Value} (h : fn.results = #[.cell p ty, .tmp q, .tmp r]) (hp : tmps.getD p undef = .pointer (some ⟨b, 0, none⟩))
    (hl : (loadVar ty ⟨b, 0, none⟩).run P w = .ok v w) : (results fn tmps).run P w = .ok (.tuple #[v, tmps.getD q undef, tmps.getD r undef]) w := by
  have hp' : tmps[p]?.getD undef = .pointer (some ⟨b, 0, none⟩) := by simpa using hp
  simp [results, h, hp', asAddr, hl]
theorem results_t_cell_t {P : Program} {fn : Func} {p q r : Tmp} {ty : TypeId} {tmps : Array Value} {w : World} {b : Nat} {v : Value} (h : fn.results = #[.tmp q, .cell p ty, .tmp r]) (hp : tmps.getD p undef = .pointer (some ⟨b, 0, none⟩))
    (hl : (loadVar ty ⟨b, 0, none⟩).run P w = .ok v w) : (results fn tmps).run P w = .ok (.tuple #[tmps.getD q undef, v, tmps.getD r undef]) w := by
  have hp' : tmps[p]?.getD undef = .pointer (some ⟨b, 0, none⟩) := by simpa using hp
  simp [results, h, hp', asAddr, hl]

/-- A store of one cell into a block that is known. -/
theorem store_one {P : Program} {ops : Array Oper} {rest : List Oper} {op : Oper} {a : Act} {w : World} {Q : Exit → Act → World → Prop} (ty : TypeId) (hi : (P.info? ty).map (·.size) = some 1) (hgd : op.guard = none) (x y : Operand) (ho : op.op = .store ty x y)
    (b o : Nat) (v : Value) (hx : a.eval x = .pointer (some ⟨b, o, none⟩)) (hy : a.eval y = v) (h1 : v.oneCell' = true) {n : Nat} {c : Nat → Value} (hH : Has w b n c) (hle : o < n)
    (h : ∀ w2, Only b w w2 → Has w2 b n (fun j => if j = o then v else c j) → wpList P ops Q rest (a.put op.dst undef) w2) : wpList P ops Q (op :: rest) a w := by
  refine wpList_plain hgd fun K hK => ?_
  have hst := run_storeCells_cells (P := P) b o [v] 0 w (fun j hj => by simp at hj; subst hj; rw [hH.1 _ (by omega)]; rfl) (fun j _ => hH.2.1 _) (fun u hu => by simp at hu; subst hu; exact h1)
  have hvc : v.cells = #[v] := by cases v <;> first | rfl | simp [Value.oneCell'] at h1
  cases hq : P.info? ty with
  | none => simp [hq] at hi
  | some i =>
    have hs : i.size = 1 := by simpa [hq] using hi
    have hr : (Instr.storeAt ty (.pointer (some ⟨b, o, none⟩)) v).run P w = .ok () (w.setCell ⟨b, o, none⟩ v) := by
      simp only [Nat.add_zero] at hst
      simp [Instr.storeAt, Instr.sureAddr, storeVar, sizeOf, typeInfo, hq, hs, hvc, hst, World.setCells]
    unfold Oper.wp execOp
    simp only [ho, hx, hy, Sem.run_bind, hr]
    exact hK _ _ (h _ (only_setCell _ _ _ _) hH.set)


end Go.Proofs.Ytegdnfmhhigjfaa
