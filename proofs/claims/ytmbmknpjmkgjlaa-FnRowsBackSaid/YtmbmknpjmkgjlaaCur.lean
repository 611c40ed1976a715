/-
  Contracts: the reader of choices: next, pick, among.
-/
import Derived.Test.YtmbmknpjmkgjlaaArgB
import Derived.Laws.Bits64b
namespace Go.Proofs.Ytmbmknpjmkgjlaa
open Go.RowKit

def CurC (A : Option Addr) (n cp at' : Nat) (seed : Int) : Nat → Value := fun o => if o = 0 then .slice A n cp else if o = 1 then .int .i64 (at' : Int) else .int .u64 seed
/-- Block C holds a reader over the n bytes at A that has read at most m of them. -/
def Cur (w : World) (C : Nat) (A : Option Addr) (n cp m : Nat) : Prop := ∃ (at' : Nat) (seed : Int), at' ≤ m ∧ (0 ≤ seed ∧ seed ≤ 18446744073709551615) ∧ Has w C 3 (CurC A n cp at' seed)
theorem ArgB.grown {w w2 : World} {A : Option Addr} {n : Nat} {x : Nat → Nat} {q : Option Nat} (h : ArgB w A n x) (hg : w.grownBy w2 q) (hq : ∀ b off, 0 < n → A = some ⟨b, off, none⟩ → q ≠ some b) : ArgB w2 A n x := fun h0 => by
  obtain ⟨b, off, e, hlt, hc⟩ := h h0
  have hne := hq b off h0 e
  refine ⟨b, off, e, Nat.lt_of_lt_of_le hlt hg.size, fun i hi => ⟨?_, (hc i hi).2⟩⟩
  rw [← (hc i hi).1]
  have hb := hg.block b hlt (fun he => hne he.symm)
  unfold World.cell?
  simp only [hb]
theorem Cur.call {w w2 : World} {C : Nat} {A : Option Addr} {n cp m : Nat} (h : Cur w C A n cp m) (hb : Below w.heap.size w w2) : Cur w2 C A n cp m := by
  obtain ⟨a, s, h1, h2, hH⟩ := h
  exact ⟨a, s, h1, h2, hH.call hb⟩
theorem Cur.mono {w : World} {C : Nat} {A : Option Addr} {n cp m m' : Nat} (h : Cur w C A n cp m) (hm : m ≤ m') : Cur w C A n cp m' := by
  obtain ⟨a, s, h1, h2, hH⟩ := h
  exact ⟨a, s, Nat.le_trans h1 hm, h2, hH⟩
theorem Cur.lt {w : World} {C : Nat} {A : Option Addr} {n cp m : Nat} (h : Cur w C A n cp m) : C < w.heap.size := by
  obtain ⟨_, _, _, _, hH⟩ := h
  exact hH.2.2
theorem info_u64 : (Try.prog.info? 59).map (·.size) = some 1 := by kernel_rfl
theorem store_u64 {ops : Array Oper} {rest : List Oper} {op : Oper} {a : Act} {w : World} {Q : Exit → Act → World → Prop} (hgd : op.guard = none) (x y : Operand) (ho : op.op = .store 59 x y)
    (b o : Nat) (v : Int) (hx : a.eval x = .pointer (some ⟨b, o, none⟩)) (hy : a.eval y = .int .u64 v) {n : Nat} {c : Nat → Value} (hH : Has w b n c) (hle : o < n)
    (h : ∀ w2, Only b w w2 → Has w2 b n (fun j => if j = o then .int .u64 v else c j) → wpList Try.prog ops Q rest (a.put op.dst undef) w2) : wpList Try.prog ops Q (op :: rest) a w :=
  store_one 59 info_u64 hgd x y ho b o _ hx hy rfl hH hle h

theorem gr_set2 (w : World) (C n : Nat) (u v : Value) : w.grownBy (((w.drewN n).setCell ⟨C, 1, none⟩ u).setCell ⟨C, 2, none⟩ v) (some C) :=
  gr_trans (gr_drewN (w := w) (some C) n) (gr_only ((only_setCell (w.drewN n) C 1 u).trans (only_setCell _ C 2 v)))
theorem and_255 (s : Int) (h : 0 ≤ s ∧ s ≤ 18446744073709551615) : ∃ V : Nat, V ≤ 255 ∧ bits BinOp.and IntKind.u64 (s / 1099511627776) 255 = (V : Int) := by
  obtain ⟨q, hq⟩ : ∃ q : Nat, s / 1099511627776 = (q : Int) := ⟨(s / 1099511627776).toNat, by omega⟩
  refine ⟨q &&& 255, Nat.and_le_right, ?_⟩
  rw [hq]
  exact bits_and_u64_nat q 255 (by omega) (by decide)
theorem u64_range (x : Int) : 0 ≤ IntKind.u64.wrap x ∧ IntKind.u64.wrap x ≤ 18446744073709551615 := by
  show 0 ≤ x % 18446744073709551616 ∧ x % 18446744073709551616 ≤ 18446744073709551615
  omega
theorem cur_set {A : Option Addr} {n cp a : Nat} {s S : Int} (o : Nat) (ho : o < 3) : (if o = 2 then Value.int .u64 S else if o = 1 then .int .i64 ((a : Int) + 1) else CurC A n cp a s o) = CurC A n cp (a + 1) S o := by
  rcases (by omega : o = 0 ∨ o = 1 ∨ o = 2) with rfl | rfl | rfl <;> rfl

theorem cur_next {w : World} {C : Nat} {A : Option Addr} {n cp a : Nat} {s : Int} (h : Has w C 3 (CurC A n cp a s)) (k : Nat) (z : Int) : ∃ s', (0 ≤ s' ∧ s' ≤ 18446744073709551615) ∧ Has (((w.drewN k).setCell ⟨C, 1, none⟩ (.int .i64 ((a : Int) + 1))).setCell ⟨C, 2, none⟩ (.int .u64 (IntKind.u64.wrap z))) C 3 (CurC A n cp (a + 1) s') :=
  ⟨_, u64_range z, (Has.set (Has.set (Has.drewN h k))).congr fun o ho => cur_set o ho⟩

set_option maxHeartbeats 4000000 in
set_option maxRecDepth 100000 in
theorem next_any (C : Nat) (A : Option Addr) (n cp m : Nat) (x : Nat → Nat) (hn : n ≤ 65536) (hm : m ≤ 1000000) (w : World) (hA : ArgB w A n x) (hAC : ∀ b off, 0 < n → A = some ⟨b, off, none⟩ → b ≠ C) (hC : Cur w C A n cp m) :
    Calls Try.prog 84 #[.pointer (some ⟨C, 0, none⟩)] w fun e w' => ∃ v : Nat, e = .returned (.int .i64 (v : Int)) ∧ v ≤ 255 ∧ Cur w' C A n cp (m + 1) ∧ w.grownBy w' (some C) := by
  obtain ⟨a, s, ha, hs, hH⟩ := hC
  have q0 : w.cell? ⟨C, 0, none⟩ = some (.slice A n cp) := hH.1 0 (by omega)
  have q1 : w.cell? ⟨C, 1, none⟩ = some (.int .i64 (a : Int)) := hH.1 1 (by omega)
  have q2 : w.cell? ⟨C, 2, none⟩ = some (.int .u64 s) := hH.1 2 (by omega)
  have HH := hide hH
  have hzC := hH.2.2
  have hfC := hH.2.1
  have a0 : (0 : Int) ≤ a := by omega
  clear hH
  by_cases hlt : a < n
  · have a1 : (a : Int) < n := by omega
    obtain ⟨b, off, rfl, hbw, hc⟩ := hA (by omega)
    obtain ⟨hc1, hc2⟩ := hc a hlt
    obtain ⟨y, hy⟩ : ∃ y, y = x a := ⟨_, rfl⟩
    rw [← hy] at hc1 hc2
    clear hc hy hA hAC
    go_enter Try.func84, Try.ntmps84
    go_wp2_with fail
    go_quiet (fail)
    go_wp2_with fail
    go_quiet (fail)
    go_upto_region 6 with (fail)
    generalize hWN : World.setCell (World.setCell _ _ _) _ _ = wz
    have G0 : w.grownBy wz (some C) := by (rw [← hWN]; exact gr_set2 _ _ _ _ _)
    have hex : ∃ s', (0 ≤ s' ∧ s' ≤ 18446744073709551615) ∧ Has wz C 3 (CurC (some ⟨b, off, none⟩) n cp (a + 1) s') := by
      rw [← hWN]
      exact cur_next HH.out _ _
    obtain ⟨s', hs', j0⟩ := hex
    have r0 : wz.cell? ⟨C, 0, none⟩ = some (.slice (some ⟨b, off, none⟩) n cp) := j0.1 0 (by omega)
    have r1 : wz.cell? ⟨C, 1, none⟩ = some (.int .i64 ((a : Int) + 1)) := j0.1 1 (by omega)
    have HJ := hide j0
    have HG := hide G0
    clear hWN q0 q1 q2 hc1 j0 G0
    have a2 : (a : Int) + 1 ≤ n := by omega
    go_quiet (fail)
    go_wp2_with fail
    go_ret
    exact ⟨y, rfl, hc2, ⟨a + 1, s', by omega, hs', Has.drewN HJ.out _⟩, gr_trans HG.out (gr_drewN _ _)⟩
  · have a1 : ¬ (a : Int) < n := by omega
    clear hA hAC
    go_enter Try.func84, Try.ntmps84
    go_wp2_with fail
    go_quiet (fail)
    go_upto_region 6 with (fail)
    generalize hWN : World.setCell (World.setCell _ _ _) _ _ = wz
    have G0 : w.grownBy wz (some C) := by (rw [← hWN]; exact gr_set2 _ _ _ _ _)
    have hex : ∃ s', (0 ≤ s' ∧ s' ≤ 18446744073709551615) ∧ Has wz C 3 (CurC A n cp (a + 1) s') := by
      rw [← hWN]
      exact cur_next HH.out _ _
    obtain ⟨s', hs', j0⟩ := hex
    have r0 : wz.cell? ⟨C, 0, none⟩ = some (.slice A n cp) := j0.1 0 (by omega)
    have r1 : wz.cell? ⟨C, 1, none⟩ = some (.int .i64 ((a : Int) + 1)) := j0.1 1 (by omega)
    have r2 : wz.cell? ⟨C, 2, none⟩ = some (.int .u64 s') := j0.1 2 (by omega)
    have HJ := hide j0
    have HG := hide G0
    clear hWN q0 q1 q2 j0 G0
    have a2 : ¬ (a : Int) + 1 ≤ n := by omega
    obtain ⟨V, hV, hv⟩ := and_255 s' hs'
    go_quiet (fail)
    go_wp2_with fail
    go_ret
    exact ⟨V, rfl, hV, ⟨a + 1, s', by omega, hs', Has.drewN HJ.out _⟩, gr_trans HG.out (gr_drewN _ _)⟩

set_option maxHeartbeats 4000000 in
set_option maxRecDepth 100000 in
theorem pick_any (C : Nat) (A : Option Addr) (n cp m k : Nat) (x : Nat → Nat) (hn : n ≤ 65536) (hm : m ≤ 1000000) (hk : 2 ≤ k) (hk2 : k ≤ 200) (w : World) (hA : ArgB w A n x) (hAC : ∀ b off, 0 < n → A = some ⟨b, off, none⟩ → b ≠ C) (hC : Cur w C A n cp m) :
    Calls Try.prog 66 #[.pointer (some ⟨C, 0, none⟩), .int .i64 (k : Int)] w fun e w' => ∃ v : Nat, e = .returned (.int .i64 (v : Int)) ∧ v < k ∧ Cur w' C A n cp (m + 1) ∧ w.grownBy w' (some C) := by
  have HN := hide (next_any C A n cp m x hn hm w hA hAC hC)
  have k1 : ¬ (k : Int) ≤ 1 := by omega
  have k2 : ¬ (200 : Int) < k := by omega
  have k3 : ¬ (k : Int) = 0 := by omega
  clear hA hAC hC
  go_enter Try.func66, Try.ntmps66
  go_upto_region 4 with ((go_at_call 84); (with_reducible refine HN.out.mono ?_); rintro e w2 ⟨v, rfl, hv, hC2, hG2⟩)
  go_wp2_with fail
  go_ret
  exact ⟨v % k, ret_int (by simp), Nat.mod_lt _ (by omega), hC2, hG2⟩

set_option maxHeartbeats 4000000 in
set_option maxRecDepth 100000 in
theorem among_any (C : Nat) (A : Option Addr) (n cp m k g c : Nat) (f : Nat → Int) (x : Nat → Nat) (hn : n ≤ 65536) (hm : m ≤ 1000000) (hk : 2 ≤ k) (hk2 : k ≤ 200) (w : World) (hA : ArgB w A n x) (hAC : ∀ b off, 0 < n → A = some ⟨b, off, none⟩ → b ≠ C) (hC : Cur w C A n cp m) (hL : Has w g k (fun o => .int .i64 (f o))) (hgC : g ≠ C) :
    Calls Try.prog 65 #[.pointer (some ⟨C, 0, none⟩), .slice (some ⟨g, 0, none⟩) k c] w fun e w' => ∃ i : Nat, e = .returned (.int .i64 (f i)) ∧ i < k ∧ Cur w' C A n cp (m + 1) ∧ w.grownBy w' (some C) := by
  have HP := hide (pick_any C A n cp m k x hn hm hk hk2 w hA hAC hC)
  have HL := hide hL
  clear hA hAC hC hL
  go_enter Try.func65, Try.ntmps65
  go_wp2_with ((go_at_call 66); (with_reducible refine HP.out.mono ?_); rintro e w2 ⟨v, rfl, hv, hC2, hG2⟩; have hvi : (v : Int) < k := (by omega); have hv0 : (0 : Int) ≤ v := (by omega); have q1 : w2.cell? ⟨g, v, none⟩ = some (.int .i64 (f v)) := (HL.out.grown hG2 (fun he => hgC (Option.some.inj he).symm)).1 v hv)
  go_ret
  exact ⟨v, rfl, hv, hC2, hG2⟩

end Go.Proofs.Ytmbmknpjmkgjlaa
