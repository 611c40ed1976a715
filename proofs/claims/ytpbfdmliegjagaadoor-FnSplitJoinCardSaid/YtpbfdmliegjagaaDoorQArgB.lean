/-
  An argument that is a slice of bytes; the reader of choices (l1Cur).
-/
import Derived.Test.YtpbfdmliegjagaaDoorWrap
import Derived.Test.YtpbfdmliegjagaaDoorQStrS
import Derived.Deep.OwnRows
import Derived.Deep.DeepCutAuto
import Derived.Laws.Bits64b
import Derived.Test.YtpbfdmliegjagaaDoorQSl0
import Derived.IntWalk
namespace Go.Proofs.YtpbfdmliegjagaaDoor
open Go.ChangeShapes Go.WideShapes Go.ChangeAt Go.RowKit

/-- The slice at A holds the n bytes x. -/
def ArgB (W : World) (A : Option Addr) (n : Nat) (x : Nat → Nat) : Prop :=
  0 < n → ∃ b off, A = some ⟨b, off, none⟩ ∧ b < W.heap.size ∧ ∀ i, i < n → W.cell? ⟨b, off + i, none⟩ = some (.int .u8 (x i : Int)) ∧ x i ≤ 255
theorem ArgB.call {w w2 : World} {A : Option Addr} {n : Nat} {x : Nat → Nat} (h : ArgB w A n x) (hb : Below w.heap.size w w2) : ArgB w2 A n x := fun h0 => by
  obtain ⟨b, off, e, hlt, hc⟩ := h h0
  exact ⟨b, off, e, Nat.lt_of_lt_of_le hlt hb.size, fun i hi => ⟨(hb.cell (p := ⟨b, off + i, none⟩) hlt).trans (hc i hi).1, (hc i hi).2⟩⟩

section
variable {H : Type} {enc : TypeId × Value → H}
set_option maxRecDepth 100000 in
theorem bytes_arg {W : World} {r : Reach} {b0 : Nat} {t e : TypeId} {v : Value} {d : DataW H} {ps : List MemPlace} (ht : Tryd.prog.underlying t = some (.slice e)) (he : Tryd.prog.underlying e = some (.int .u8)) (hc : Tryd.prog.cellsOf e = 1)
    (hval : Value.okWide Tryd.prog W r b0 t v) (hd : DataW.Trod enc Tryd.prog W 0 (fun _ => true) true t v d ps) :
    ∃ A n cap x, v = .slice A n cap ∧ n ≤ maxLen ∧ Hid (ArgB W A n x) := by
  obtain ⟨a0, len, cap, rfl⟩ := okWide_slice ht hval
  obtain ⟨fuel, hf⟩ := hd
  rcases open_ints ht he hc hf with ⟨hcs, hx⟩ | ⟨a, len', cap', zs, hcs, _, hl, hm, hz, hx, hcell, hwz⟩
  · simp [Value.cells] at hcs
    obtain ⟨rfl, rfl, rfl⟩ := hcs
    exact ⟨none, 0, 0, fun _ => 0, rfl, (by unfold maxLen; omega), fun h => absurd h (Nat.lt_irrefl 0)⟩
  · simp [Value.cells] at hcs
    obtain ⟨rfl, rfl, rfl⟩ := hcs
    simp only [Prod.mk.injEq] at hx
    obtain ⟨rfl, rfl⟩ := hx
    simp only [if_true] at hz
    refine ⟨some a, len, cap, fun i => (zs.getD i 0).toNat, rfl, Nat.le_trans hl hm, fun h0 => ?_⟩
    obtain ⟨b, off, spot⟩ := a
    have hlz : len ≤ zs.length := by omega
    have hspot : spot = none := by simpa [Addr.add] using World.cell?_spot (hcell 0 (by omega))
    subst hspot
    refine ⟨b, off, rfl, ?_, fun i hi => ?_⟩
    · have h1 := hcell 0 (by omega)
      exact World.block_lt_of_cell? W _ h1
    · have h1 := hcell i (by omega)
      rw [Addr.add_lit] at h1
      have hmem : zs.getD i 0 ∈ zs := by
        have hi2 : i < zs.length := by omega
        rw [List.getD_eq_getElem?_getD, List.getElem?_eq_getElem hi2]
        exact List.getElem_mem hi2
      have h2 := hwz _ hmem
      have h3 := bounds_u8 h2
      refine ⟨?_, by show (zs.getD i 0).toNat ≤ 255; omega⟩
      rw [h1]
      show _ = some (Value.int .u8 (((zs.getD i 0).toNat : Nat) : Int))
      rw [Int.toNat_of_nonneg h3.1]
end

end Go.Proofs.YtpbfdmliegjagaaDoor

namespace Go.Proofs.YtpbfdmliegjagaaDoor
open Go.RowKit

def CurC (A : Option Addr) (n cp at' : Nat) (seed : Int) : Nat → Value := fun o => if o = 0 then .slice A n cp else if o = 1 then .int .i64 (at' : Int) else .int .u64 seed
/-- Block C holds a reader over the n bytes at A that has read at most m of them. -/
def Cur (w : World) (C : Nat) (A : Option Addr) (n cp m : Nat) : Prop := ∃ (at' : Nat) (seed : Int), at' ≤ m ∧ (0 ≤ seed ∧ seed ≤ 18446744073709551615) ∧ Has w C 3 (CurC A n cp at' seed)
theorem ArgB.grown {w w2 : World} {A : Option Addr} {n : Nat} {x : Nat → Nat} {q : Option Nat} (h : ArgB w A n x) (hg : w.grownBy w2 q) (hq : ∀ b off, 0 < n → A = some ⟨b, off, none⟩ → q ≠ some b) : ArgB w2 A n x := fun h0 => by
  obtain ⟨b, off, e, hlt, hc⟩ := h h0
  have hne := hq b off h0 e
  refine ⟨b, off, e, Nat.lt_of_lt_of_le hlt hg.size, fun i hi => ⟨?_, (hc i hi).2⟩⟩
  rw [← (hc i hi).1]
  have hb := hg.block b hlt (fun he => hne he.symm)
  unfold World.cell?
  simp only [hb]
theorem Cur.call {w w2 : World} {C : Nat} {A : Option Addr} {n cp m : Nat} (h : Cur w C A n cp m) (hb : Below w.heap.size w w2) : Cur w2 C A n cp m := by
  obtain ⟨a, s, h1, h2, hH⟩ := h
  exact ⟨a, s, h1, h2, hH.call hb⟩
theorem Cur.mono {w : World} {C : Nat} {A : Option Addr} {n cp m m' : Nat} (h : Cur w C A n cp m) (hm : m ≤ m') : Cur w C A n cp m' := by
  obtain ⟨a, s, h1, h2, hH⟩ := h
  exact ⟨a, s, Nat.le_trans h1 hm, h2, hH⟩
theorem Cur.lt {w : World} {C : Nat} {A : Option Addr} {n cp m : Nat} (h : Cur w C A n cp m) : C < w.heap.size := by
  obtain ⟨_, _, _, _, hH⟩ := h
  exact hH.2.2
theorem info_u64 : (Tryd.prog.info? 42).map (·.size) = some 1 := by kernel_rfl
theorem store_u64 {ops : Array Oper} {rest : List Oper} {op : Oper} {a : Act} {w : World} {Q : Exit → Act → World → Prop} (hgd : op.guard = none) (x y : Operand) (ho : op.op = .store 42 x y)
    (b o : Nat) (v : Int) (hx : a.eval x = .pointer (some ⟨b, o, none⟩)) (hy : a.eval y = .int .u64 v) {n : Nat} {c : Nat → Value} (hH : Has w b n c) (hle : o < n)
    (h : ∀ w2, Only b w w2 → Has w2 b n (fun j => if j = o then .int .u64 v else c j) → wpList Tryd.prog ops Q rest (a.put op.dst undef) w2) : wpList Tryd.prog ops Q (op :: rest) a w :=
  store_one 42 info_u64 hgd x y ho b o _ hx hy rfl hH hle h

theorem gr_set2 (w : World) (C n : Nat) (u v : Value) : w.grownBy (((w.drewN n).setCell ⟨C, 1, none⟩ u).setCell ⟨C, 2, none⟩ v) (some C) :=
  gr_trans (gr_drewN (w := w) (some C) n) (gr_only ((only_setCell (w.drewN n) C 1 u).trans (only_setCell _ C 2 v)))
theorem and_255 (s : Int) (h : 0 ≤ s ∧ s ≤ 18446744073709551615) : ∃ V : Nat, V ≤ 255 ∧ bits BinOp.and IntKind.u64 (s / 1099511627776) 255 = (V : Int) := by
  obtain ⟨q, hq⟩ : ∃ q : Nat, s / 1099511627776 = (q : Int) := ⟨(s / 1099511627776).toNat, by omega⟩
  refine ⟨q &&& 255, Nat.and_le_right, ?_⟩
  rw [hq]
  exact bits_and_u64_nat q 255 (by omega) (by decide)
theorem u64_range (x : Int) : 0 ≤ IntKind.u64.wrap x ∧ IntKind.u64.wrap x ≤ 18446744073709551615 := by
  show 0 ≤ x % 18446744073709551616 ∧ x % 18446744073709551616 ≤ 18446744073709551615
  omega
theorem cur_set {A : Option Addr} {n cp a : Nat} {s S : Int} (o : Nat) (ho : o < 3) : (if o = 2 then Value.int .u64 S else if o = 1 then .int .i64 ((a : Int) + 1) else CurC A n cp a s o) = CurC A n cp (a + 1) S o := by
  rcases (by omega : o = 0 ∨ o = 1 ∨ o = 2) with rfl | rfl | rfl <;> rfl

theorem cur_next {w : World} {C : Nat} {A : Option Addr} {n cp a : Nat} {s : Int} (h : Has w C 3 (CurC A n cp a s)) (k : Nat) (z : Int) : ∃ s', (0 ≤ s' ∧ s' ≤ 18446744073709551615) ∧ Has (((w.drewN k).setCell ⟨C, 1, none⟩ (.int .i64 ((a : Int) + 1))).setCell ⟨C, 2, none⟩ (.int .u64 (IntKind.u64.wrap z))) C 3 (CurC A n cp (a + 1) s') :=
  ⟨_, u64_range z, (Has.set (Has.set (Has.drewN h k))).congr fun o ho => cur_set o ho⟩

set_option maxHeartbeats 4000000 in
set_option maxRecDepth 100000 in
theorem next_any (C : Nat) (A : Option Addr) (n cp m : Nat) (x : Nat → Nat) (hn : n ≤ 65536) (hm : m ≤ 1000000) (w : World) (hA : ArgB w A n x) (hAC : ∀ b off, 0 < n → A = some ⟨b, off, none⟩ → b ≠ C) (hC : Cur w C A n cp m) :
    Calls Tryd.prog 44 #[.pointer (some ⟨C, 0, none⟩)] w fun e w' => ∃ v : Nat, e = .returned (.int .i64 (v : Int)) ∧ v ≤ 255 ∧ Cur w' C A n cp (m + 1) ∧ w.grownBy w' (some C) := by
  obtain ⟨a, s, ha, hs, hH⟩ := hC
  have q0 : w.cell? ⟨C, 0, none⟩ = some (.slice A n cp) := hH.1 0 (by omega)
  have q1 : w.cell? ⟨C, 1, none⟩ = some (.int .i64 (a : Int)) := hH.1 1 (by omega)
  have q2 : w.cell? ⟨C, 2, none⟩ = some (.int .u64 s) := hH.1 2 (by omega)
  have HH := hide hH
  have hzC := hH.2.2
  have hfC := hH.2.1
  have a0 : (0 : Int) ≤ a := by omega
  clear hH
  by_cases hlt : a < n
  · have a1 : (a : Int) < n := by omega
    obtain ⟨b, off, rfl, hbw, hc⟩ := hA (by omega)
    obtain ⟨hc1, hc2⟩ := hc a hlt
    obtain ⟨y, hy⟩ : ∃ y, y = x a := ⟨_, rfl⟩
    rw [← hy] at hc1 hc2
    clear hc hy hA hAC
    go_enter Tryd.func44, Tryd.ntmps44
    go_wp2_with fail
    go_quiet (fail)
    go_wp2_with fail
    go_quiet (fail)
    go_upto_region 6 with (fail)
    generalize hWN : World.setCell (World.setCell _ _ _) _ _ = wz
    have G0 : w.grownBy wz (some C) := by (rw [← hWN]; exact gr_set2 _ _ _ _ _)
    have hex : ∃ s', (0 ≤ s' ∧ s' ≤ 18446744073709551615) ∧ Has wz C 3 (CurC (some ⟨b, off, none⟩) n cp (a + 1) s') := by
      rw [← hWN]
      exact cur_next HH.out _ _
    obtain ⟨s', hs', j0⟩ := hex
    have r0 : wz.cell? ⟨C, 0, none⟩ = some (.slice (some ⟨b, off, none⟩) n cp) := j0.1 0 (by omega)
    have r1 : wz.cell? ⟨C, 1, none⟩ = some (.int .i64 ((a : Int) + 1)) := j0.1 1 (by omega)
    have HJ := hide j0
    have HG := hide G0
    clear hWN q0 q1 q2 hc1 j0 G0
    have a2 : (a : Int) + 1 ≤ n := by omega
    go_quiet (fail)
    go_wp2_with fail
    go_ret
    exact ⟨y, rfl, hc2, ⟨a + 1, s', by omega, hs', Has.drewN HJ.out _⟩, gr_trans HG.out (gr_drewN _ _)⟩
  · have a1 : ¬ (a : Int) < n := by omega
    clear hA hAC
    go_enter Tryd.func44, Tryd.ntmps44
    go_wp2_with fail
    go_quiet (fail)
    go_upto_region 6 with (fail)
    generalize hWN : World.setCell (World.setCell _ _ _) _ _ = wz
    have G0 : w.grownBy wz (some C) := by (rw [← hWN]; exact gr_set2 _ _ _ _ _)
    have hex : ∃ s', (0 ≤ s' ∧ s' ≤ 18446744073709551615) ∧ Has wz C 3 (CurC A n cp (a + 1) s') := by
      rw [← hWN]
      exact cur_next HH.out _ _
    obtain ⟨s', hs', j0⟩ := hex
    have r0 : wz.cell? ⟨C, 0, none⟩ = some (.slice A n cp) := j0.1 0 (by omega)
    have r1 : wz.cell? ⟨C, 1, none⟩ = some (.int .i64 ((a : Int) + 1)) := j0.1 1 (by omega)
    have r2 : wz.cell? ⟨C, 2, none⟩ = some (.int .u64 s') := j0.1 2 (by omega)
    have HJ := hide j0
    have HG := hide G0
    clear hWN q0 q1 q2 j0 G0
    have a2 : ¬ (a : Int) + 1 ≤ n := by omega
    obtain ⟨V, hV, hv⟩ := and_255 s' hs'
    go_quiet (fail)
    go_wp2_with fail
    go_ret
    exact ⟨V, rfl, hV, ⟨a + 1, s', by omega, hs', Has.drewN HJ.out _⟩, gr_trans HG.out (gr_drewN _ _)⟩

set_option maxHeartbeats 4000000 in
set_option maxRecDepth 100000 in
theorem pick_any (C : Nat) (A : Option Addr) (n cp m k : Nat) (x : Nat → Nat) (hn : n ≤ 65536) (hm : m ≤ 1000000) (hk : 2 ≤ k) (hk2 : k ≤ 200) (w : World) (hA : ArgB w A n x) (hAC : ∀ b off, 0 < n → A = some ⟨b, off, none⟩ → b ≠ C) (hC : Cur w C A n cp m) :
    Calls Tryd.prog 28 #[.pointer (some ⟨C, 0, none⟩), .int .i64 (k : Int)] w fun e w' => ∃ v : Nat, e = .returned (.int .i64 (v : Int)) ∧ v < k ∧ Cur w' C A n cp (m + 1) ∧ w.grownBy w' (some C) := by
  have HN := hide (next_any C A n cp m x hn hm w hA hAC hC)
  have k1 : ¬ (k : Int) ≤ 1 := by omega
  have k2 : ¬ (200 : Int) < k := by omega
  have k3 : ¬ (k : Int) = 0 := by omega
  clear hA hAC hC
  go_enter Tryd.func28, Tryd.ntmps28
  go_upto_region 4 with ((go_at_call 44); (with_reducible refine HN.out.mono ?_); rintro e w2 ⟨v, rfl, hv, hC2, hG2⟩)
  go_wp2_with fail
  go_ret
  exact ⟨v % k, ret_int (by simp), Nat.mod_lt _ (by omega), hC2, hG2⟩

set_option maxHeartbeats 4000000 in
set_option maxRecDepth 100000 in
theorem among_any (C : Nat) (A : Option Addr) (n cp m k g c : Nat) (f : Nat → Int) (x : Nat → Nat) (hn : n ≤ 65536) (hm : m ≤ 1000000) (hk : 2 ≤ k) (hk2 : k ≤ 200) (w : World) (hA : ArgB w A n x) (hAC : ∀ b off, 0 < n → A = some ⟨b, off, none⟩ → b ≠ C) (hC : Cur w C A n cp m) (hL : Has w g k (fun o => .int .i64 (f o))) (hgC : g ≠ C) :
    Calls Tryd.prog 33 #[.pointer (some ⟨C, 0, none⟩), .slice (some ⟨g, 0, none⟩) k c] w fun e w' => ∃ i : Nat, e = .returned (.int .i64 (f i)) ∧ i < k ∧ Cur w' C A n cp (m + 1) ∧ w.grownBy w' (some C) := by
  have HP := hide (pick_any C A n cp m k x hn hm hk hk2 w hA hAC hC)
  have HL := hide hL
  clear hA hAC hC hL
  go_enter Tryd.func33, Tryd.ntmps33
  go_wp2_with ((go_at_call 28); (with_reducible refine HP.out.mono ?_); rintro e w2 ⟨v, rfl, hv, hC2, hG2⟩; have hvi : (v : Int) < k := (by omega); have hv0 : (0 : Int) ≤ v := (by omega); have q1 : w2.cell? ⟨g, v, none⟩ = some (.int .i64 (f v)) := (HL.out.grown hG2 (fun he => hgC (Option.some.inj he).symm)).1 v hv)
  go_ret
  exact ⟨v, rfl, hv, hC2, hG2⟩

end Go.Proofs.YtpbfdmliegjagaaDoor

namespace Go.Proofs.YtpbfdmliegjagaaDoor
open Go.RowKit

theorem among_new (C : Nat) (A : Option Addr) (n cp m : Nat) (x : Nat → Nat) (hn : n ≤ 65536) (hm : m ≤ 1000000) (L : List Int) (hk : 2 ≤ L.length) (hk2 : L.length ≤ 200) (cs : Array Value) (T k : Nat) (hkL : k = L.length) (hcs : cs = (L.map fun t => Value.int .i64 t).toArray) (w : World) (hA : ArgB w A n x) (hAC : ∀ b off, 0 < n → A = some ⟨b, off, none⟩ → b ≠ C) (hC : Cur w C A n cp m) :
    Calls Tryd.prog 33 #[.pointer (some ⟨C, 0, none⟩), .slice (some ⟨w.heap.size, 0, none⟩) k k] (w.alloc (.cells cs T)) fun e w' => ∃ t, t ∈ L ∧ e = .returned (.int .i64 t) ∧ Cur w' C A n cp (m + 1) ∧ w.grownBy w' (some C) := by
  subst hkL hcs
  have hb : Below w.heap.size w (w.alloc (.cells (L.map fun t => Value.int .i64 t).toArray T)) := below_new (Below.refl _ _) _
  have hL : Has (w.alloc (.cells (L.map fun t => Value.int .i64 t).toArray T)) w.heap.size L.length (fun o => .int .i64 (L.getD o 0)) :=
    (Has.new' (n := L.length) (by simp)).congr fun o ho => by simp [List.getD, ho]
  refine (among_any C A n cp m L.length w.heap.size L.length (fun o => L.getD o 0) x hn hm hk hk2 _ (hA.call hb) hAC (hC.call hb) hL (by have := hC.lt; omega)).mono ?_
  rintro e w' ⟨i, rfl, hi, hC2, hG⟩
  exact ⟨L.getD i 0, by simp [List.getD, hi], rfl, hC2, gr_trans (gr_below _ hb) hG⟩

end Go.Proofs.YtpbfdmliegjagaaDoor

namespace Go.Proofs.YtpbfdmliegjagaaDoor
open Go.RowKit

/-- Block C holds a reader over the n bytes x at A, which it has not laid itself; it has read at most m. -/
def Rd (w : World) (C : Nat) (A : Option Addr) (n cp m : Nat) (x : Nat → Nat) : Prop := ArgB w A n x ∧ (∀ b off, 0 < n → A = some ⟨b, off, none⟩ → b ≠ C) ∧ Cur w C A n cp m
theorem Rd.call {w w2 : World} {C : Nat} {A : Option Addr} {n cp m : Nat} {x : Nat → Nat} (h : Rd w C A n cp m x) (hb : Below w.heap.size w w2) : Rd w2 C A n cp m x := ⟨h.1.call hb, h.2.1, h.2.2.call hb⟩
theorem Rd.next {w w2 : World} {C : Nat} {A : Option Addr} {n cp m m' : Nat} {x : Nat → Nat} (h : Rd w C A n cp m x) (hg : w.grownBy w2 (some C)) (hc : Cur w2 C A n cp m') : Rd w2 C A n cp m' x :=
  ⟨h.1.grown hg (fun b off h0 e he => h.2.1 b off h0 e (Option.some.inj he).symm), h.2.1, hc⟩
theorem Rd.lt {w : World} {C : Nat} {A : Option Addr} {n cp m : Nat} {x : Nat → Nat} (h : Rd w C A n cp m x) : C < w.heap.size := h.2.2.lt
theorem Rd.mono {w : World} {C : Nat} {A : Option Addr} {n cp m m' : Nat} {x : Nat → Nat} (h : Rd w C A n cp m x) (hm : m ≤ m') : Rd w C A n cp m' x := ⟨h.1, h.2.1, h.2.2.mono hm⟩
theorem Rd.only {w w2 : World} {C B : Nat} {A : Option Addr} {n cp m : Nat} {x : Nat → Nat} (h : Rd w C A n cp m x) (ho : Only B w w2) (hB : B ≠ C) (hA : ∀ b off, 0 < n → A = some ⟨b, off, none⟩ → b ≠ B) : Rd w2 C A n cp m x := by
  obtain ⟨a, s, h1, h2, hH⟩ := h.2.2
  exact ⟨h.1.grown (gr_only ho) (fun b off h0 e he => hA b off h0 e (Option.some.inj he).symm), h.2.1, a, s, h1, h2, hH.only ho (fun e => hB e.symm)⟩
/-- A reader just made. -/
theorem rd_new {w : World} {A : Option Addr} {n cp : Nat} {x : Nat → Nat} (h : ArgB w A n x) (T : TypeId) (m : Nat) : Rd (w.alloc (.cells #[.slice A n cp, .int .i64 0, .int .u64 0] T)) w.heap.size A n cp m x := by
  refine ⟨h.call (below_new (Below.refl _ _) _), fun b off h0 e he => ?_, 0, 0, Nat.zero_le _, ⟨by omega, by omega⟩, (Has.new' (n := 3) rfl).congr fun o ho => ?_⟩
  · obtain ⟨b', off', e', hlt, _⟩ := h h0
    rw [e'] at e
    cases e
    omega
  · rcases (by omega : o = 0 ∨ o = 1 ∨ o = 2) with rfl | rfl | rfl <;> rfl

theorem pick_rd {C : Nat} {A : Option Addr} {n cp m : Nat} {x : Nat → Nat} (k : Nat) (hn : n ≤ 65536) (hm : m ≤ 1000000) (hk : 2 ≤ k) (hk2 : k ≤ 200) {w : World} (h : Rd w C A n cp m x) :
    Calls Tryd.prog 28 #[.pointer (some ⟨C, 0, none⟩), .int .i64 (k : Int)] w fun e w' => ∃ v : Nat, e = .returned (.int .i64 (v : Int)) ∧ v < k ∧ Rd w' C A n cp (m + 1) x ∧ w.grownBy w' (some C) :=
  (pick_any C A n cp m k x hn hm hk hk2 w h.1 h.2.1 h.2.2).mono fun _ _ ⟨v, e, hv, hC, hG⟩ => ⟨v, e, hv, h.next hG hC, hG⟩
theorem among_rd {C : Nat} {A : Option Addr} {n cp m : Nat} {x : Nat → Nat} (L : List Int) (hn : n ≤ 65536) (hm : m ≤ 1000000) (hk : 2 ≤ L.length) (hk2 : L.length ≤ 200) {w : World} (h : Rd w C A n cp m x) (cs : Array Value) (T k : Nat) (hkL : k = L.length) (hcs : cs = (L.map fun t => Value.int .i64 t).toArray) :
    Calls Tryd.prog 33 #[.pointer (some ⟨C, 0, none⟩), .slice (some ⟨w.heap.size, 0, none⟩) k k] (w.alloc (.cells cs T)) fun e w' => ∃ t, t ∈ L ∧ e = .returned (.int .i64 t) ∧ Rd w' C A n cp (m + 1) x ∧ w.grownBy w' (some C) :=
  (among_new C A n cp m x hn hm L hk hk2 cs T k hkL hcs w h.1 h.2.1 h.2.2).mono fun _ _ ⟨t, ht, e, hC, hG⟩ => ⟨t, ht, e, h.next hG hC, hG⟩
end Go.Proofs.YtpbfdmliegjagaaDoor

namespace Go.Proofs.YtpbfdmliegjagaaDoor
open Go.RowKit

set_option maxHeartbeats 4000000 in
set_option maxRecDepth 100000 in
theorem of_any (C : Nat) (A : Option Addr) (n cp m k g c : Nat) (f : Nat → ByteArray) (x : Nat → Nat) (hn : n ≤ 65536) (hm : m ≤ 1000000) (hk : 2 ≤ k) (hk2 : k ≤ 200) (w : World) (hA : ArgB w A n x) (hAC : ∀ b off, 0 < n → A = some ⟨b, off, none⟩ → b ≠ C) (hC : Cur w C A n cp m) (hL : Has w g k (fun o => .string (f o))) (hgC : g ≠ C) :
    Calls Tryd.prog 26 #[.pointer (some ⟨C, 0, none⟩), .slice (some ⟨g, 0, none⟩) k c] w fun e w' => ∃ i : Nat, e = .returned (.string (f i)) ∧ i < k ∧ Cur w' C A n cp (m + 1) ∧ w.grownBy w' (some C) := by
  have HP := hide (pick_any C A n cp m k x hn hm hk hk2 w hA hAC hC)
  have HL := hide hL
  clear hA hAC hC hL
  go_enter Tryd.func26, Tryd.ntmps26
  go_wp2_with ((go_at_call 28); (with_reducible refine HP.out.mono ?_); rintro e w2 ⟨v, rfl, hv, hC2, hG2⟩; have hvi : (v : Int) < k := (by omega); have hv0 : (0 : Int) ≤ v := (by omega); have q1 : w2.cell? ⟨g, v, none⟩ = some (.string (f v)) := (HL.out.grown hG2 (fun he => hgC (Option.some.inj he).symm)).1 v hv)
  go_ret
  exact ⟨v, rfl, hv, hC2, hG2⟩

theorem of_rd {C : Nat} {A : Option Addr} {n cp m : Nat} {x : Nat → Nat} (L : List ByteArray) (hn : n ≤ 65536) (hm : m ≤ 1000000) (hk : 2 ≤ L.length) (hk2 : L.length ≤ 200) {w : World} (h : Rd w C A n cp m x) (cs : Array Value) (T k : Nat) (hkL : k = L.length) (hcs : cs = (L.map fun t => Value.string t).toArray) :
    Calls Tryd.prog 26 #[.pointer (some ⟨C, 0, none⟩), .slice (some ⟨w.heap.size, 0, none⟩) k k] (w.alloc (.cells cs T)) fun e w' => ∃ t, t ∈ L ∧ e = .returned (.string t) ∧ Rd w' C A n cp (m + 1) x ∧ w.grownBy w' (some C) := by
  subst hkL hcs
  have hb : Below w.heap.size w (w.alloc (.cells (L.map fun t => Value.string t).toArray T)) := below_new (Below.refl _ _) _
  have hL : Has (w.alloc (.cells (L.map fun t => Value.string t).toArray T)) w.heap.size L.length (fun o => .string (L.getD o ByteArray.empty)) :=
    (Has.new' (n := L.length) (by simp)).congr fun o ho => by simp [List.getD, ho]
  refine (of_any C A n cp m L.length w.heap.size L.length (fun o => L.getD o ByteArray.empty) x hn hm hk hk2 _ (h.1.call hb) h.2.1 (h.2.2.call hb) hL (by have := h.lt; omega)).mono ?_
  rintro e w' ⟨i, rfl, hi, hC2, hG⟩
  exact ⟨L.getD i ByteArray.empty, by simp [List.getD, hi], rfl, (h.call hb).next hG hC2, gr_trans (gr_below _ hb) hG⟩

def anyL : List ByteArray := [⟨#[]⟩, ⟨#[97]⟩, ⟨#[97, 44, 98]⟩, ⟨#[115, 111, 109, 101, 32, 119, 111, 114, 100, 115]⟩, ⟨#[120, 35, 121]⟩, ⟨#[45, 49, 50]⟩, ⟨#[0, 255]⟩, ⟨#[44, 44]⟩, ⟨#[48]⟩]
theorem anyL_size : ∀ t, t ∈ anyL → t.size ≤ 10 := by decide

set_option maxHeartbeats 4000000 in
set_option maxRecDepth 100000 in
theorem any1_rd {C : Nat} {A : Option Addr} {n cp m : Nat} {x : Nat → Nat} (hn : n ≤ 65536) (hm : m ≤ 1000000) {w : World} (h : Rd w C A n cp m x) :
    Calls Tryd.prog 25 #[.pointer (some ⟨C, 0, none⟩)] w fun e w' => ∃ t, t ∈ anyL ∧ e = .returned (.string t) ∧ Rd w' C A n cp (m + 1) x ∧ w.grownBy w' (some C) := by
  have HP := hide (fun cs T k hkL hcs => of_rd anyL hn hm (by decide) (by decide) h cs T k hkL hcs)
  clear h
  go_enter Tryd.func25, Tryd.ntmps25
  go_wp2_with ((go_at_call 26); (refine (HP.out _ _ _ rfl rfl).mono ?_); rintro e w2 ⟨t, ht, rfl, hR2, hG2⟩)
  go_ret
  exact ⟨t, ht, rfl, hR2, hG2⟩

end Go.Proofs.YtpbfdmliegjagaaDoor

namespace Go.Proofs.YtpbfdmliegjagaaDoor
open Go.RowKit

set_option maxHeartbeats 4000000 in
set_option maxRecDepth 100000 in
theorem one_rd {C : Nat} {A : Option Addr} {n cp m : Nat} {x : Nat → Nat} (k : Nat) (hn : n ≤ 65536) (hm : m ≤ 1000000) (hk : 2 ≤ k) (hk2 : k ≤ 200) {w : World} (h : Rd w C A n cp m x) :
    Calls Tryd.prog 29 #[.pointer (some ⟨C, 0, none⟩), .int .i64 (k : Int)] w fun e w' => ∃ b : Bool, e = .returned (.bool b) ∧ Rd w' C A n cp (m + 1) x ∧ w.grownBy w' (some C) := by
  have HP := hide (pick_rd k hn hm hk hk2 h)
  clear h
  go_enter Tryd.func29, Tryd.ntmps29
  go_wp2_with ((go_at_call 28); (with_reducible refine HP.out.mono ?_); rintro e w2 ⟨v, rfl, hv, hR, hG⟩)
  go_ret
  exact ⟨_, rfl, hR, hG⟩

def sepL : List ByteArray := [⟨#[44]⟩, ⟨#[44]⟩, ⟨#[32]⟩, ⟨#[]⟩, ⟨#[44, 44]⟩]

set_option maxHeartbeats 4000000 in
set_option maxRecDepth 100000 in
theorem drawSplitString_any (A : Option Addr) (n cp : Nat) (x : Nat → Nat) (hn : n ≤ 65536) (w : World) (hA : ArgB w A n x) :
    Calls Tryd.prog 6 #[.slice A n cp] w fun e w' => ∃ s t : ByteArray, e = .returned (.tuple #[.string s, .string t]) ∧ s ∈ anyL ∧ t ∈ sepL ∧ Below w.heap.size w w' := by
  have HX := hide (fun T => rd_new (w := w) hA (cp := cp) T 0)
  clear hA
  go_enter Tryd.func6, Tryd.ntmps6
  go_upto_region 2 with (fail)
  generalize hW : World.alloc w _ = w1
  have hR0 := by have h := HX.out 44; rw [hW] at h; exact h
  have hB : Below w.heap.size w w1 := by (rw [← hW]; exact below_new (Below.refl _ _) _)
  clear hW HX
  go_wp2_with (first | (go_at_call 25; (refine (any1_rd hn (by omega) hR0).mono ?_); rintro e w2 ⟨s, hs, rfl, hR1, hG2⟩; have hB2 : Below w.heap.size w w2 := below_gr hB hG2 (Nat.le_refl _); clear hB hG2 hR0; have hB := hB2; clear hB2) | (go_at_call 26; (refine (of_rd sepL hn (by omega) (by decide) (by decide) hR1 _ _ _ rfl rfl).mono ?_); rintro e w2 ⟨t, ht, rfl, hR2, hG2⟩; have hB2 : Below w.heap.size w w2 := below_gr hB hG2 (Nat.le_refl _); clear hB hG2 hR1; have hB := hB2; clear hB2))
  go_ret2
  exact ⟨s, t, rfl, hs, ht, hB⟩

set_option maxHeartbeats 4000000 in
set_option maxRecDepth 100000 in
theorem drawLessString_any (A : Option Addr) (n cp : Nat) (x : Nat → Nat) (hn : n ≤ 65536) (w : World) (hA : ArgB w A n x) :
    Calls Tryd.prog 11 #[.slice A n cp] w fun e w' => ∃ s t : ByteArray, e = .returned (.tuple #[.string s, .string t]) ∧ s ∈ anyL ∧ t ∈ anyL ∧ Below w.heap.size w w' := by
  have HX := hide (fun T => rd_new (w := w) hA (cp := cp) T 0)
  clear hA
  go_enter Tryd.func11, Tryd.ntmps11
  go_upto_region 2 with (fail)
  generalize hW : World.alloc w _ = w1
  have hR0 := by have h := HX.out 44; rw [hW] at h; exact h
  have hB : Below w.heap.size w w1 := by (rw [← hW]; exact below_new (Below.refl _ _) _)
  clear hW HX
  go_wp2_with (first | (go_at_call 25; (refine (any1_rd hn (by omega) hR0).mono ?_); rintro e w2 ⟨s, hs, rfl, hR1, hG2⟩; have hB2 : Below w.heap.size w w2 := below_gr hB hG2 (Nat.le_refl _); clear hB hG2 hR0; have hB := hB2; clear hB2) | (go_at_call 25; (refine (any1_rd hn (by omega) hR1).mono ?_); rintro e w2 ⟨t, ht, rfl, hR2, hG2⟩; have hB2 : Below w.heap.size w w2 := below_gr hB hG2 (Nat.le_refl _); clear hB hG2 hR1; have hB := hB2; clear hB2))
  go_ret2
  exact ⟨s, t, rfl, hs, ht, hB⟩

end Go.Proofs.YtpbfdmliegjagaaDoor

namespace Go.Proofs.YtpbfdmliegjagaaDoor
open Go.RowKit

theorem Rd.row {w w2 : World} {C : Nat} {A : Option Addr} {n cp m : Nat} {x : Nat → Nat} {q : Option Nat} (h : Rd w C A n cp m x) (hg : w.grownBy w2 q) (hq : q ≠ some C) (hqA : ∀ b off, 0 < n → A = some ⟨b, off, none⟩ → q ≠ some b) : Rd w2 C A n cp m x := by
  obtain ⟨a, s, h1, h2, hH⟩ := h.2.2
  exact ⟨h.1.grown hg hqA, h.2.1, a, s, h1, h2, hH.grown hg hq⟩
theorem own_base1 {w : World} {b e size n : Nat} {v : Value} {xs : List Value} (h : w.ownsRow (b + 1) e size v n xs) : w.ownsRow b e size v n xs :=
  ⟨h.1, h.2.imp id fun ⟨g, cap, cur, e1, hb, r⟩ => ⟨g, cap, cur, e1, by omega, r⟩⟩
def sepM : List ByteArray := [⟨#[44]⟩, ⟨#[59]⟩, ⟨#[59]⟩, ⟨#[]⟩, ⟨#[97, 98]⟩]
theorem info_u8 : (Tryd.prog.info? 5).map (fun i => (i.zero, i.size, i.bytes)) = some (some (.int .u8 0), 1, 1) := by kernel_rfl
def strs (L : List ByteArray) : List Value := L.map fun t => .string t
theorem strs_snoc (L : List ByteArray) (t : ByteArray) : strs (L ++ [t]) = strs L ++ [.string t] := by simp [strs]
def zeS (N : Nat) : ByteArray := ⟨(List.replicate N (0 : UInt8)).toArray⟩
theorem zeS_size (N : Nat) : (zeS N).size = N := by simp [zeS, ByteArray.size]
theorem conv_zeros (N : Nat) (w : World) : (convert 22 9 (.slice (some ⟨w.heap.size, 0, none⟩) N N)).run Tryd.prog (w.alloc (.cells (madeCells #[.int .u8 0] N) 5)) = .ok (.string (zeS N)) (w.alloc (.cells (madeCells #[.int .u8 0] N) 5)) := by
  have hn := Has.new' (w := w) (T := 5) (madeCells_size1 (.int .u8 0) N)
  have h := run_convert_bytes_back (P := Tryd.prog) (w.alloc (.cells (madeCells #[.int .u8 0] N) 5)) 22 9 5 ⟨w.heap.size, 0, none⟩ N (List.replicate N (0 : UInt8)) Tryd.underlying22 Tryd.underlying5 Tryd.underlying9 (fun j hj => by
    rw [List.length_replicate] at hj
    rw [Addr.add_lit, Nat.zero_add, hn.1 j hj, List.getElem_replicate]
    simp [madeCells, hj, Nat.mod_one])
  rw [List.length_replicate] at h
  exact h

set_option maxHeartbeats 4000000 in
set_option maxRecDepth 100000 in
theorem drawJoinStrings_any (A : Option Addr) (n cp : Nat) (x : Nat → Nat) (hn : n ≤ 65536) (w : World) (hA : ArgB w A n x) :
    Calls Tryd.prog 8 #[.slice A n cp] w fun e w' => ∃ (u : Value) (L : List ByteArray) (sep : ByteArray), e = .returned (.tuple #[u, .string sep]) ∧ u ≠ .slice none 0 0 ∧ L.length ≤ 4 ∧ Hid (∀ t, t ∈ L → t.size ≤ 5000) ∧ w'.ownsRow w.heap.size 9 1 u L.length (strs L) ∧ Below w.heap.size w w' := by
  obtain ⟨i0, hi0, hz0, hz1, hz2⟩ := info_parts info_str
  have HAB : Hid (∀ b off, 0 < n → A = some ⟨b, off, none⟩ → b < w.heap.size) := hide (fun b off h0 e => by
    obtain ⟨b', off', e', hlt, _⟩ := hA h0
    rw [e'] at e
    cases e
    exact hlt)
  have HX := hide (fun T => rd_new (w := w) hA (cp := cp) T 0)
  clear hA
  go_enter Tryd.func8, Tryd.ntmps8
  go_upto_region 2 with (fail)
  generalize hW : World.alloc w _ = w1
  have hR := by have h := HX.out 44; rw [hW] at h; exact h
  have hB : Below w.heap.size w w1 := by (rw [← hW]; exact below_new (Below.refl _ _) _)
  have hs1 : w1.heap.size = w.heap.size + 1 := by rw [← hW]; simp
  clear hW HX
  go_upto_region 3 with (fail)
  generalize hW : World.alloc w1 _ = w2
  have hR' := by have h := hR.call (below_new (Below.refl w1.heap.size w1) (.cells #[] 9)); rw [hW] at h; exact h
  have hB' : Below w.heap.size w w2 := by (rw [← hW]; exact below_new hB _)
  have own : w2.ownsRow (w.heap.size + 1) 9 1 (.slice (some ⟨w1.heap.size, 0, none⟩) 0 0) 0 (strs []) := by (rw [← hW]; exact World.ownsRow_made w1 #[] 0 (Nat.le_of_eq hs1.symm) (Nat.zero_le _) rfl)
  clear hW hR hB
  have hR := hR'; have hB := hB'; clear hR' hB'
  have hC0 : w.heap.size ≤ w.heap.size := Nat.le_refl _
  rw [hs1] at own
  clear hs1
  clear w1
  go_upto_region 4 with (first | (go_at_call 28; (refine (pick_rd 4 hn (by omega) (by decide) (by decide) hR).mono ?_); rintro e w4 ⟨N, rfl, hN, hR2, hG2⟩; have own2 := own.kept hG2 (Or.inr (fun he => by have h1 : w.heap.size + 1 = w.heap.size := Option.some.inj he; omega)); have hB2 : Below w.heap.size w w4 := below_gr hB hG2 hC0; clear hR own hB hG2; have hR := hR2; have own := own2; have hB := hB2; clear hR2 own2 hB2))
  have hNi : (N : Int) < 4 := by omega
  go_wp2_with fail
  go_loopw [5, 7] (fun v5 v7 wr => ∃ (k : Nat) (u : Value) (L : List ByteArray), u = v5 ∧ k ≤ N ∧ v7 = .int .i64 k ∧ L.length = k ∧ u ≠ .slice none 0 0 ∧ Hid (∀ t, t ∈ L → t.size ≤ 5000) ∧ wr.ownsRow (w.heap.size + 1) 9 1 u k (strs L) ∧ Rd wr w.heap.size A n cp (1 + k) x ∧ Below w.heap.size w wr) (fun _ v _ => N - (intOf v).toNat)
  case atStart => exact ⟨0, _, [], rfl, by omega, rfl, rfl, by simp, hide (by simp), own, hR, hB⟩
  case round =>
    clear hR hB own
    obtain ⟨k, u, L, rfl, hk, rfl, hL, hu, hsz, own, hR, hB⟩ := hrel
    have hbase : ∀ q, u.ownBlock = some q → w.heap.size + 1 ≤ q := fun q hq => (own.lt q hq).1
    have HBS := hide hbase
    clear hbase
    by_cases hkN : k = N
    · subst hkN
      go_upto_region 9 with (first | (go_at_call 29; (refine (one_rd 20 hn (by omega) (by decide) (by decide) hR).mono ?_); rintro e w4 ⟨yes, rfl, hR2, hG2⟩; have own2 := own.kept hG2 (Or.inr (fun he => by have := HBS.out _ he; omega)); have hB2 : Below w.heap.size w w4 := below_gr hB hG2 (Nat.le_refl _); clear hR own hB hG2; have hR := hR2; have own := own2; have hB := hB2; clear hR2 own2 hB2))
      · have hR0 := hR
        clear hR
        go_upto_region 10 with (first | (go_at_call 28; (refine (pick_rd 20 hn (by omega) (by decide) (by decide) hR0).mono ?_); rintro e w4 ⟨v, rfl, hv, hR, hG2⟩; have own2 := own.kept hG2 (Or.inr (fun he => by have := HBS.out _ he; omega)); have hB2 : Below w.heap.size w w4 := below_gr hB hG2 (Nat.le_refl _); clear hR0 own hB hG2; have own := own2; have hB := hB2; clear own2 hB2; obtain ⟨M, hM, hM5⟩ : ∃ M : Nat, (3990 : Int) + v = M ∧ M ≤ 5000 := ⟨3990 + v, (by omega), (by omega)⟩; have s1 : IntKind.i64.wrap (M : Int) = M := IntWalk.i64_in _ (by omega); have hmk := run_make_row' (P := Tryd.prog) 22 5 (.int .u8 0) 1 Tryd.underlying22 info_u8 rfl .i64 .i64 M (by omega) (by omega); have hcv := conv_zeros M) | (at_builtin; refine wpList_append_own _ rfl _ _ 26 rfl (w.heap.size + 1) 9 i0 (.string ByteArray.empty) 1 16 Tryd.underlying26 hi0 hz0 hz1 hz2 rfl (by decide) _ k (strs L) rfl ((own.alloc _).alloc _) ⟨w4.heap.size + 1, 0, none⟩ 1 1 [.string (zeS M)] rfl rfl (by have h := one_cell (wr := w4.alloc (.cells (madeCells #[.int .u8 0] M) 5)) (T := 9) (x := .string (zeS M)); rw [World.size_alloc] at h; exact h) (fun u hu => by simp at hu; subst hu; rfl) (by unfold maxLen; omega) (by omega) (by have := hR.lt; simp; omega) ?_; intro u2 w5 own2 hg2 hne2; have hB2 := (below_new (below_new hB (.cells (madeCells #[.int .u8 0] M) 5)) (.cells #[.string (zeS M)] 9)).grown hg2 (by have := hB.size; simp; omega) (fun q hq => by have := (own.lt q hq).1; omega); have hR2 := ((hR.call (below_new (Below.refl _ _) (.cells (madeCells #[.int .u8 0] M) 5))).call (below_new (Below.refl _ _) (.cells #[.string (zeS M)] 9))).row hg2 (fun he => by have := HBS.out _ he; omega) (fun b off h0 e he => by have := HAB.out b off h0 e; have := HBS.out _ he; omega); clear own hB hR hg2))
        have HB2 : Hid (∀ q, u2.ownBlock = some q → w.heap.size + 1 ≤ q) := hide (fun q hq => (own2.lt q hq).1)
        rw [← strs_snoc] at own2
        have hu2 : u2 ≠ .slice none 0 0 := fun e => hu (hne2.1 e).1
        have hsz2 : Hid (∀ t, t ∈ L ++ [zeS M] → t.size ≤ 5000) := hide (fun t ht => by
          simp only [List.mem_append, List.mem_singleton] at ht
          rcases ht with ht | rfl
          · exact hsz.out t ht
          · rw [zeS_size]; exact hM5)
        clear HBS hne2 hmk hcv s1 hM
        have hR := hR2; have own := own2; have hB := hB2; have HBS := HB2
        clear hR2 own2 hB2 HB2
        go_wp2_with (first | (go_at_call 26; (refine (of_rd sepM hn (by omega) (by decide) (by decide) hR _ _ _ rfl rfl).mono ?_); rintro e w4 ⟨sep, hsep, rfl, hR2, hG2⟩; have own2 := own.kept hG2 (Or.inr (fun he => by have := HBS.out _ he; omega)); have hB2 : Below w.heap.size w w4 := below_gr hB hG2 (Nat.le_refl _); clear hR own hB hG2; have hR := hR2; have own := own2; have hB := hB2; clear hR2 own2 hB2))
        go_ret2
        exact ⟨u2, L ++ [zeS M], sep, rfl, hu2, by simp; omega, hsz2, by rw [show (L ++ [zeS M]).length = k + 1 by simp [hL]]; exact own_base1 own, hB⟩
      · go_wp2_with (first | (go_at_call 26; (refine (of_rd sepM hn (by omega) (by decide) (by decide) hR _ _ _ rfl rfl).mono ?_); rintro e w4 ⟨sep, hsep, rfl, hR2, hG2⟩; have own2 := own.kept hG2 (Or.inr (fun he => by have := HBS.out _ he; omega)); have hB2 : Below w.heap.size w w4 := below_gr hB hG2 (Nat.le_refl _); clear hR own hB hG2; have hR := hR2; have own := own2; have hB := hB2; clear hR2 own2 hB2))
        go_ret2
        exact ⟨u, L, sep, rfl, hu, by omega, hsz, by rw [hL]; exact own_base1 own, hB⟩
    · have hkl : k < N := by omega
      have hkli : (k : Int) < N := by omega
      have a0 : (0 : Int) ≤ k := by omega
      go_wp2_with (first | (go_at_call 25; (refine (any1_rd hn (by omega) hR).mono ?_); rintro e w4 ⟨t, ht, rfl, hR2, hG2⟩; have own2 := own.kept hG2 (Or.inr (fun he => by have := HBS.out _ he; omega)); have hB2 : Below w.heap.size w w4 := below_gr hB hG2 (Nat.le_refl _); clear hR own hB hG2; have hR := hR2; have own := own2; have hB := hB2; clear hR2 own2 hB2) | (at_builtin; refine wpList_append_own _ rfl _ _ 26 rfl (w.heap.size + 1) 9 i0 (.string ByteArray.empty) 1 16 Tryd.underlying26 hi0 hz0 hz1 hz2 rfl (by decide) _ k (strs L) rfl (own.alloc _) ⟨w4.heap.size, 0, none⟩ 1 1 [.string t] rfl rfl one_cell (fun u hu => by simp at hu; subst hu; rfl) (by unfold maxLen; omega) (by omega) (by have := hR.lt; simp; omega) ?_; intro u2 w5 own2 hg2 hne2; have hB2 := (below_new hB (.cells #[.string t] 9)).grown hg2 (by have := hB.size; simp; omega) (fun q hq => by have := (own.lt q hq).1; omega); have hR2 := (hR.call (below_new (Below.refl _ _) (.cells #[.string t] 9))).row hg2 (fun he => by have := HBS.out _ he; omega) (fun b off h0 e he => by have := HAB.out b off h0 e; have := HBS.out _ he; omega)))
      go_roundw
      case rel => exact ⟨k + 1, u2, L ++ [t], rfl, by omega, by go_num, by simp [hL], fun e => hu (hne2.1 e).1, hide (fun q hq => by
        simp only [List.mem_append, List.mem_singleton] at hq
        rcases hq with hq | rfl
        · exact hsz.out q hq
        · exact Nat.le_trans (anyL_size _ ht) (by omega)), by rw [strs_snoc]; exact own2, hR2, hB2⟩
      case measure => simp [intOf]; omega

end Go.Proofs.YtpbfdmliegjagaaDoor
