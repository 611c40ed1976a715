/-
  Contracts: the laws' comparison, marking and reading of slices of strings.
-/
import Derived.Test.YtpbfdmliegjagaaDoorQSl0
import Derived.Deep.RegionHeld3
import Derived.Test.YtpbfdmliegjagaaDoorShelf
import Derived.Test.YtpbfdmliegjagaaDoorWrap
import Derived.Deep.OwnRows
import Derived.Deep.DeepCutAuto
import Derived.SliceStrings
import Derived.Lib.Join
import Derived.Test.YtpbfdmliegjagaaDoorBase0
import Derived.OwnWalk
import Derived.Laws.OwnMore
import Derived.Maps.AppendAt
namespace Go.Proofs.YtpbfdmliegjagaaDoor
open Go.RowKit

theorem info_s1 : (Tryd.prog.info? 9).map (·.size) = some 1 := by kernel_rfl
theorem store_strS {ops : Array Oper} {rest : List Oper} {op : Oper} {a : Act} {w : World} {Q : Exit → Act → World → Prop} (hgd : op.guard = none) (x y : Operand) (ho : op.op = .store 9 x y)
    (b o : Nat) (v : ByteArray) (hx : a.eval x = .pointer (some ⟨b, o, none⟩)) (hy : a.eval y = .string v) {n : Nat} {c : Nat → Value} (hH : Has w b n c) (hle : o < n)
    (h : ∀ w2, Only b w w2 → Has w2 b n (fun j => if j = o then .string v else c j) → wpList Tryd.prog ops Q rest (a.put op.dst undef) w2) : wpList Tryd.prog ops Q (op :: rest) a w :=
  store_one 9 info_s1 hgd x y ho b o _ hx hy rfl hH hle h

def dgC (k : Nat) : UInt8 := UInt8.ofNat (48 + k % 10)
/-- The digits of a mark. -/
def mkD (n : Nat) : List UInt8 := if _h : n = 0 then [] else mkD (n / 10) ++ [dgC n]
termination_by n
decreasing_by omega
theorem mkD_zero : mkD 0 = [] := by rw [mkD]; rfl
theorem mkD_pos {n : Nat} (h : 0 < n) : mkD n = mkD (n / 10) ++ [dgC n] := by
  conv => lhs; rw [mkD]
  rw [dif_neg (by omega)]
theorem mkD_len : ∀ (k n : Nat), n < 10 ^ k → (mkD n).length ≤ k
  | 0, n, h => by
    have : n = 0 := by simpa using h
    subst this; rw [mkD_zero]; simp
  | k + 1, n, h => by
    rcases Nat.eq_zero_or_pos n with h0 | h0
    · subst h0; rw [mkD_zero]; simp
    · rw [mkD_pos h0]
      have := mkD_len k (n / 10) (by rw [Nat.pow_succ] at h; omega)
      simp; omega
def mkT (n : Nat) : ByteArray := mkS (109 :: mkD n)

theorem dig_u8 (k : Nat) : (48 + (k : Int) % 10) % 256 = ((dgC k).toNat : Int) := by
  have h : ∀ d : Nat, d < 10 → (48 + (d : Int)) % 256 = ((UInt8.ofNat (48 + d)).toNat : Int) := by decide
  unfold dgC
  rw [← h (k % 10) (by omega)]
  congr 1
theorem conv_dig (k : Nat) (x : Int) (hx : x = ((dgC k).toNat : Int)) (w : World) : (convert 22 9 (.slice (some ⟨w.heap.size, 0, none⟩) 1 1)).run Tryd.prog (w.alloc (.cells #[.int .u8 x] 5)) = .ok (.string (mkS [dgC k])) (w.alloc (.cells #[.int .u8 x] 5)) := by
  refine run_convert_bytes_back _ _ _ 5 _ 1 [dgC k] Tryd.underlying22 Tryd.underlying5 Tryd.underlying9 ?_
  intro j hj
  have hj0 : j = 0 := by simpa using hj
  subst hj0
  rw [hx]
  exact one_cell 0 _ rfl

end Go.Proofs.YtpbfdmliegjagaaDoor

namespace Go.Proofs.YtpbfdmliegjagaaDoor
open Go.RowKit

def mkF (q : Nat) : Nat → ByteArray := fun o => mkT (q + o)

end Go.Proofs.YtpbfdmliegjagaaDoor

namespace Go.Proofs.YtpbfdmliegjagaaDoor
open Go.RowKit

/-- The library's variable MaxLen holds some whole number. -/
def MaxI (w : World) : Prop := ∃ m, w.cell? ⟨0, 0, none⟩ = some (.int .i64 m)
theorem MaxI.call {w w2 : World} (h : MaxI w) (hb : Below w.heap.size w w2) : MaxI w2 :=
  let ⟨m, hm⟩ := h
  ⟨m, (hb.cell (p := ⟨0, 0, none⟩) (World.block_lt_of_cell? _ _ hm)).trans hm⟩

theorem one_sep {sep : ByteArray} (h : sep.size = 1) : ∃ c, sep = ⟨#[c]⟩ := by
  have hl : sep.data.toList.length = 1 := by rw [Array.length_toList]; exact h
  match hs : sep.data.toList, hl with
  | [c], _ => exact ⟨c, by apply ByteArray.ext; apply Array.toList_inj.1; rw [hs]⟩
theorem split_any (s : ByteArray) (c : UInt8) (hs : s.size ≤ 4000) (w : World) (hm : MaxI w) :
    Calls Tryd.prog 27 #[.string s, .string ⟨#[c]⟩] w fun e w' => ∃ A cap, e = .returned (.slice A (spR s c).length cap) ∧ Sl w' w.heap.size A (spR s c).length (fun o => .string (fS (spR s c) o)) ∧ Below w.heap.size w w' := by
  obtain ⟨m, hm⟩ := hm
  have h := Tryd.strings_Split s ⟨#[c]⟩ m w (by omega) hm (Nat.le_refl _)
  rw [split_len, split_one] at h
  refine h.mono ?_
  rintro e w' ⟨rfl, rfl⟩
  have hn := Has.new' (w := w) (cs := ((spR s c).map Value.string).toArray) (T := 9) (n := (spR s c).length) (by simp)
  refine ⟨_, _, rfl, fun _ => ⟨_, rfl, Nat.le_refl _, hn.congr fun o ho => ?_⟩, (by repeat (first | (with_reducible exact Below.refl _ _) | (with_reducible assumption) | (with_reducible refine below_go ?_ (by with_reducible assumption)) | (with_reducible refine below_new ?_ _) | ((with_reducible refine below_put ?_ ?_ _); rotate_left; (dsimp only; omega)) | (with_reducible refine Below.drew ?_) | (with_reducible refine below_dn ?_ _)))⟩
  simp [fS, ho]
theorem strs_sl {w : World} {base : Nat} {v : Value} {l : List ByteArray} (h : w.ownsRow base 9 1 v l.length (strsV l)) : ∃ A cap, v = .slice A l.length cap ∧ Sl w base A l.length (fun o => .string (fS l o)) := by
  obtain ⟨A, cap, rfl, _, hS⟩ := own_sl h
  rw [Nat.mul_one] at hS
  exact ⟨A, cap, rfl, hS.congr fun o ho => by simp [strsV, fS, ho]⟩

theorem ssOk_bounds {s sep : ByteArray} (h : ssOk s sep = true) : s.size ≤ 4000 ∧ sep.size = 1 := by simpa [ssOk] using h
theorem ssOk_out {s sep : ByteArray} (h : ssOk s sep = false) : 4000 < s.size ∨ (s.size ≤ 4000 ∧ sep.size ≠ 1) := by
  simp [ssOk] at h
  omega

set_option maxRecDepth 100000 in
set_option maxHeartbeats 4000000 in
theorem implSplit_any (s sep : ByteArray) (w : World) (hm : MaxI w) : Calls Tryd.prog 7 #[.string s, .string sep] w fun e w' => ∃ A cap, e = .returned (.tuple #[.slice A (ssL s sep).length cap, .bool (ssOk s sep)]) ∧ Sl w' w.heap.size A (ssL s sep).length (fun o => .string (fS (ssL s sep) o)) ∧ Below w.heap.size w w' := by
  cases h : ssOk s sep
  · have e0 : ssL s sep = [] := by simp [ssL, h]
    rw [e0]
    rcases ssOk_out h with h1 | ⟨h1, h2⟩
    · have a1 : (4000 : Int) < s.size := by omega
      have a2 : decide ((s.size : Int) > 4000) = true := decide_eq_true (by omega)
      clear h e0
      go_enter Tryd.func7, Tryd.ntmps7
      go_wp2
      go_ret2
      exact ⟨_, _, rfl, sl_zero _ _ _ _, (by repeat (first | (with_reducible exact Below.refl _ _) | (with_reducible assumption) | (with_reducible refine below_go ?_ (by with_reducible assumption)) | (with_reducible refine below_new ?_ _) | ((with_reducible refine below_put ?_ ?_ _); rotate_left; (dsimp only; omega)) | (with_reducible refine Below.drew ?_) | (with_reducible refine below_dn ?_ _)))⟩
    · have a1 : (s.size : Int) ≤ 4000 := by omega
      have a2 : decide ((s.size : Int) > 4000) = false := decide_eq_false (by omega)
      have a3 : ((sep.size : Int) != 1) = true := by simp; omega
      clear h e0 h2
      go_enter Tryd.func7, Tryd.ntmps7
      go_wp2
      go_ret2
      exact ⟨_, _, rfl, sl_zero _ _ _ _, (by repeat (first | (with_reducible exact Below.refl _ _) | (with_reducible assumption) | (with_reducible refine below_go ?_ (by with_reducible assumption)) | (with_reducible refine below_new ?_ _) | ((with_reducible refine below_put ?_ ?_ _); rotate_left; (dsimp only; omega)) | (with_reducible refine Below.drew ?_) | (with_reducible refine below_dn ?_ _)))⟩
  · obtain ⟨h1, h2⟩ := ssOk_bounds h
    obtain ⟨c, rfl⟩ := one_sep h2
    have e0 : ssL s ⟨#[c]⟩ = spR s c := by simp [ssL, h]
    rw [e0]
    have a1 : (s.size : Int) ≤ 4000 := by omega
    have a2 : decide ((s.size : Int) > 4000) = false := decide_eq_false (by omega)
    have HS := hide (split_any s c h1 w hm)
    clear h e0 h2 hm
    go_enter Tryd.func7, Tryd.ntmps7
    go_wp2_with (go_at_call 27; (with_reducible refine HS.out.mono ?_); rintro e w2 ⟨A, cap, rfl, hS, hb2⟩)
    go_ret2
    exact ⟨_, _, rfl, hS, hb2⟩

end Go.Proofs.YtpbfdmliegjagaaDoor

namespace Go.Proofs.YtpbfdmliegjagaaDoor
open Go.ChangeShapes Go.WideShapes Go.ChangeAt Go.RowKit

theorem mkS_data (s : ByteArray) : mkS s.data.toList = s := by
  apply ByteArray.ext
  simp [mkS]
/-- The slice at A holds the n strings p. -/
def ArgT (W : World) (A : Option Addr) (n : Nat) (p : Nat → ByteArray) : Prop :=
  (∀ i, i < n → (p i).size ≤ 9223372036854775807) ∧ (0 < n → ∃ b off, A = some ⟨b, off, none⟩ ∧ b < W.heap.size ∧ ∀ i, i < n → W.cell? ⟨b, off + i, none⟩ = some (.string (p i)))
theorem ArgT.call {w w2 : World} {A : Option Addr} {n : Nat} {p : Nat → ByteArray} (h : ArgT w A n p) (hb : Below w.heap.size w w2) : ArgT w2 A n p := ⟨h.1, fun h0 => by
  obtain ⟨b, off, e, hlt, hc⟩ := h.2 h0
  exact ⟨b, off, e, Nat.lt_of_lt_of_le hlt hb.size, fun i hi => (hb.cell (p := ⟨b, off + i, none⟩) hlt).trans (hc i hi)⟩⟩

section
variable {H : Type} {enc : TypeId × Value → H}
set_option maxRecDepth 100000 in
theorem strs_arg {W : World} {r : Reach} {b0 : Nat} {t e : TypeId} {v : Value} {d : DataW H} {ps : List MemPlace} (ht : Tryd.prog.underlying t = some (.slice e)) (he : Tryd.prog.underlying e = some .string) (hc : Tryd.prog.cellsOf e = 1)
    (hval : Value.okWide Tryd.prog W r b0 t v) (hd : DataW.Trod enc Tryd.prog W 0 (fun _ => true) true t v d ps) :
    ∃ A n cap p, v = .slice A n cap ∧ n ≤ 9223372036854775807 ∧ Hid (ArgT W A n p) := by
  obtain ⟨a0, len, cap, rfl⟩ := okWide_slice ht hval
  obtain ⟨fuel, hf⟩ := hd
  rcases open_strings ht he hc hf with ⟨hcs, hx⟩ | ⟨a, len', cap', zs, hcs, _, hl, hm, hz, hx, hcell, hwz⟩
  · simp [Value.cells] at hcs
    obtain ⟨rfl, rfl, rfl⟩ := hcs
    exact ⟨none, 0, 0, fun _ => ByteArray.empty, rfl, by omega, fun i hi => absurd hi (Nat.not_lt_zero i), fun h => absurd h (Nat.lt_irrefl 0)⟩
  · simp [Value.cells] at hcs
    obtain ⟨rfl, rfl, rfl⟩ := hcs
    simp only [Prod.mk.injEq] at hx
    obtain ⟨rfl, rfl⟩ := hx
    simp only [if_true] at hz
    have hlz : len ≤ zs.length := by omega
    refine ⟨some a, len, cap, fun i => zs.getD i ByteArray.empty, rfl, by unfold maxLen at hm; omega, fun i hi => ?_, fun h0 => ?_⟩
    · have h1 : zs.getD i ByteArray.empty ∈ zs := by
        have hi2 : i < zs.length := by omega
        simp [hi2]
      have := hwz _ h1
      unfold maxLen at this
      exact this
    obtain ⟨b, off, spot⟩ := a
    have hspot : spot = none := by simpa [Addr.add] using World.cell?_spot (hcell 0 (by omega))
    subst hspot
    refine ⟨b, off, rfl, ?_, fun i hi => ?_⟩
    · exact World.block_lt_of_cell? W _ (hcell 0 (by omega))
    · have h1 := hcell i (by omega)
      rw [Addr.add_lit] at h1
      exact h1
end

/-- All bytes of the first k strings. -/
def tot (p : Nat → ByteArray) : Nat → Nat
  | 0 => 0
  | k + 1 => tot p k + (p k).size
theorem tot_mono (p : Nat → ByteArray) {k n : Nat} (h : k ≤ n) : tot p k ≤ tot p n := by
  induction n with
  | zero => obtain rfl : k = 0 := by omega
            exact Nat.le_refl _
  | succ n ih =>
    rcases Nat.lt_or_eq_of_le h with h1 | rfl
    · have := ih (by omega)
      show _ ≤ tot p n + _; omega
    · exact Nat.le_refl _
theorem tot_one (p : Nat → ByteArray) {k n : Nat} (h : k < n) : (p k).size ≤ tot p n := by
  have := tot_mono p (show k + 1 ≤ n by omega)
  have e : tot p (k + 1) = tot p k + (p k).size := rfl
  omega
def jL (p : Nat → ByteArray) (c : UInt8) (k : Nat) : List UInt8 := Lib.join ((List.range k).map fun j => (p j).data.toList) [c]
theorem join_snoc (sep y x : List UInt8) (r : List (List UInt8)) : Lib.join (x :: r ++ [y]) sep = Lib.join (x :: r) sep ++ sep ++ y := by
  rw [List.cons_append, Lib.join_cons, Lib.join_cons]
  simp [Lib.joinTail]
def jH (p : Nat → ByteArray) (c : UInt8) (k : Nat) : List UInt8 := if k = 0 then [] else jL p c k ++ [c]
theorem jL_succ (p : Nat → ByteArray) (c : UInt8) (k : Nat) : jL p c (k + 1) = jH p c k ++ (p k).data.toList := by
  unfold jH
  cases k with
  | zero => simp [jL, Lib.join_one]
  | succ k =>
    unfold jL
    rw [if_neg (by omega), List.range_succ, List.map_append, List.range_succ_eq_map, List.map_cons, List.map_cons, List.map_nil, join_snoc]
theorem jL_len (p : Nat → ByteArray) (c : UInt8) : ∀ k, (jL p c (k + 1)).length = tot p (k + 1) + k
  | 0 => by rw [jL_succ]; simp [jH, tot]
  | k + 1 => by
    rw [jL_succ, jH, if_neg (by omega), List.length_append, List.length_append, jL_len p c k]
    simp [tot]; omega
def Good (p : Nat → ByteArray) (n : Nat) (c : UInt8) : Prop := (∀ j, j < n → stB (p j) c = false) ∧ tot p n + (n - 1) ≤ 4000
def JR (p : Nat → ByteArray) (n : Nat) (sep : ByteArray) (s : ByteArray) (ok : Bool) : Prop :=
  (∀ c, sep = ⟨#[c]⟩ → 0 < n → Good p n c → s = mkS (jL p c n) ∧ ok = true) ∧ ((¬ ∃ c, sep = ⟨#[c]⟩ ∧ 0 < n ∧ Good p n c) → s = ⟨#[]⟩ ∧ ok = false)
open Classical in
theorem jr_ex (p : Nat → ByteArray) (n : Nat) (sep : ByteArray) : ∃ s ok, JR p n sep s ok := by
  by_cases h : ∃ c, sep = ⟨#[c]⟩ ∧ 0 < n ∧ Good p n c
  · obtain ⟨c, rfl, h0, hG⟩ := h
    refine ⟨mkS (jL p c n), true, ?_, ?_⟩
    · intro c' e _ _
      have : c' = c := by injection e with e; injection e with e; injection e with e; exact e.symm
      subst this
      exact ⟨rfl, rfl⟩
    · intro h; exact absurd ⟨c, rfl, h0, hG⟩ h
  · exact ⟨⟨#[]⟩, false, fun c e h0 hG => absurd ⟨c, e, h0, hG⟩ h, fun _ => ⟨rfl, rfl⟩⟩
theorem one_byte {s : ByteArray} (h : s.size = 1) : ∃ c, s = ⟨#[c]⟩ := by
  obtain ⟨⟨l⟩⟩ := s
  match l, h with
  | [c], _ => exact ⟨c, rfl⟩

end Go.Proofs.YtpbfdmliegjagaaDoor

namespace Go.Proofs.YtpbfdmliegjagaaDoor
open Go.RowKit

theorem info_s : (Tryd.prog.info? 9).map (·.size) = some 1 := by kernel_rfl
theorem info_str : (Tryd.prog.info? 9).map (fun i => (i.zero, i.size, i.bytes)) = some (some (.string ByteArray.empty), 1, 16) := by kernel_rfl
theorem store_str {ops : Array Oper} {rest : List Oper} {op : Oper} {a : Act} {w : World} {Q : Exit → Act → World → Prop} (hgd : op.guard = none) (x y : Operand) (ho : op.op = .store 9 x y)
    (b o : Nat) (v : ByteArray) (hx : a.eval x = .pointer (some ⟨b, o, none⟩)) (hy : a.eval y = .string v) {n : Nat} {c : Nat → Value} (hH : Has w b n c) (hle : o < n)
    (h : ∀ w2, Only b w w2 → Has w2 b n (fun j => if j = o then .string v else c j) → wpList Tryd.prog ops Q rest (a.put op.dst undef) w2) : wpList Tryd.prog ops Q (op :: rest) a w :=
  store_one 9 info_s hgd x y ho b o _ hx hy rfl hH hle h
def FilT (w : World) (g n k : Nat) (p : Nat → ByteArray) : Prop := ∃ c, Has w g n c ∧ ∀ o, o < k → c o = .string (p o)
theorem madeCells_size1 (z : Value) (n : Nat) : (madeCells #[z] n).size = n := by simp [madeCells]

def SzR (p : Nat → ByteArray) (n : Nat) (r : Int) : Prop := r = -1 ∨ (0 ≤ r ∧ n ≤ 1048576 ∧ tot p n ≤ 1048576)
end Go.Proofs.YtpbfdmliegjagaaDoor

namespace Go.Proofs.YtpbfdmliegjagaaDoor
open Go.RowKit

theorem info_int : (Tryd.prog.info? 3).map (·.size) = some 1 := by kernel_rfl
theorem info_bool : (Tryd.prog.info? 4).map (·.size) = some 1 := by kernel_rfl

theorem store_int {ops : Array Oper} {rest : List Oper} {op : Oper} {a : Act} {w : World} {Q : Exit → Act → World → Prop} (hgd : op.guard = none) (x y : Operand) (ho : op.op = .store 3 x y)
    (b o : Nat) (v : Int) (hx : a.eval x = .pointer (some ⟨b, o, none⟩)) (hy : a.eval y = .int .i64 v) {n : Nat} {c : Nat → Value} (hH : Has w b n c) (hle : o < n)
    (h : ∀ w2, Only b w w2 → Has w2 b n (fun j => if j = o then .int .i64 v else c j) → wpList Tryd.prog ops Q rest (a.put op.dst undef) w2) : wpList Tryd.prog ops Q (op :: rest) a w :=
  store_one 3 info_int hgd x y ho b o _ hx hy rfl hH hle h
theorem store_bool {ops : Array Oper} {rest : List Oper} {op : Oper} {a : Act} {w : World} {Q : Exit → Act → World → Prop} (hgd : op.guard = none) (x y : Operand) (ho : op.op = .store 4 x y)
    (b o : Nat) (v : Bool) (hx : a.eval x = .pointer (some ⟨b, o, none⟩)) (hy : a.eval y = .bool v) {n : Nat} {c : Nat → Value} (hH : Has w b n c) (hle : o < n)
    (h : ∀ w2, Only b w w2 → Has w2 b n (fun j => if j = o then .bool v else c j) → wpList Tryd.prog ops Q rest (a.put op.dst undef) w2) : wpList Tryd.prog ops Q (op :: rest) a w :=
  store_one 4 info_bool hgd x y ho b o _ hx hy rfl hH hle h

/-- A load of one whole number out of a block that is known. -/
theorem load_int {ops : Array Oper} {rest : List Oper} {op : Oper} {a : Act} {w : World} {Q : Exit → Act → World → Prop} (hgd : op.guard = none) (x : Operand) (ho : op.op = .load 3 x)
    (b o : Nat) (hx : a.eval x = .pointer (some ⟨b, o, none⟩)) {n : Nat} {c : Nat → Value} (hH : Has w b n c) (hle : o < n)
    (h : wpList Tryd.prog ops Q rest (a.put op.dst (c o)) w) : wpList Tryd.prog ops Q (op :: rest) a w := by
  refine wpList_plain hgd fun K hK => ?_
  have hc := hH.1 o hle
  have hr : (Instr.loadAt 3 (.pointer (some ⟨b, o, none⟩))).run Tryd.prog w = .ok (c o) w := by
    simp [Instr.loadAt, Instr.sureAddr, loadVar, isAgg, run_underlying Tryd.underlying3, hc, go_sem]
  unfold Oper.wp execOp
  simp only [ho, hx, Sem.run_bind, hr]
  exact hK _ _ h

-- small numbers fit
theorem wrap_c0 : IntKind.i64.wrap 0 = 0 := by kernel_rfl
theorem wrap_c1 : IntKind.i64.wrap 1 = 1 := by kernel_rfl
theorem wrap_c2 : IntKind.i64.wrap 2 = 2 := by kernel_rfl
theorem wrap_c3 : IntKind.i64.wrap 3 = 3 := by kernel_rfl
theorem wrap_c4 : IntKind.i64.wrap 4 = 4 := by kernel_rfl
theorem wrap_c5 : IntKind.i64.wrap 5 = 5 := by kernel_rfl
theorem wrap_c6 : IntKind.i64.wrap 6 = 6 := by kernel_rfl
theorem wrap_c7 : IntKind.i64.wrap 7 = 7 := by kernel_rfl
theorem wrap_c8 : IntKind.i64.wrap 8 = 8 := by kernel_rfl
theorem wrap_c9 : IntKind.i64.wrap 9 = 9 := by kernel_rfl
theorem wrap_c10 : IntKind.i64.wrap 10 = 10 := by kernel_rfl
theorem wrap_c11 : IntKind.i64.wrap 11 = 11 := by kernel_rfl
theorem wrap_c12 : IntKind.i64.wrap 12 = 12 := by kernel_rfl
theorem wrap_c13 : IntKind.i64.wrap 13 = 13 := by kernel_rfl
theorem wrap_c14 : IntKind.i64.wrap 14 = 14 := by kernel_rfl
theorem wrap_c15 : IntKind.i64.wrap 15 = 15 := by kernel_rfl
theorem wrap_c16 : IntKind.i64.wrap 16 = 16 := by kernel_rfl
theorem wrap_c17 : IntKind.i64.wrap 17 = 17 := by kernel_rfl
theorem wrap_c18 : IntKind.i64.wrap 18 = 18 := by kernel_rfl
theorem wrap_c19 : IntKind.i64.wrap 19 = 19 := by kernel_rfl
theorem wrap_m1 : IntKind.i64.wrap (-1) = -1 := by kernel_rfl
attribute [go_sem] wrap_c0 wrap_c1 wrap_c2 wrap_c3 wrap_c4 wrap_c5 wrap_c6 wrap_c7 wrap_c8 wrap_c9 wrap_c10 wrap_c11 wrap_c12 wrap_c13 wrap_c14 wrap_c15 wrap_c16 wrap_c17 wrap_c18 wrap_c19 wrap_m1

-- an element of an array value
end Go.Proofs.YtpbfdmliegjagaaDoor

namespace Go.Proofs.YtpbfdmliegjagaaDoor
open Go.RowKit

/-- Cells out of a block that is known. -/
theorem Has.news {w : World} {g N o m : Nat} {c : Nat → Value} (h : Has w g N c) (hle : o + m ≤ N) : ∀ j u, ((List.range m).map fun j => c (o + j))[j]? = some u → w.cell? ((⟨g, o, none⟩ : Addr).add j) = some u := by
  intro j u hj
  rw [Addr.add_lit]
  by_cases hjm : j < m
  · simp [hjm] at hj
    rw [h.1 (o + j) (by omega), hj]
  · simp [hjm] at hj

theorem ite_int (p : Prop) [Decidable p] (x y : Int) : (if p then Value.int .i64 x else Value.int .i64 y) = Value.int .i64 (if p then x else y) := by split <;> rfl

theorem ite_bool (p : Prop) [Decidable p] (x y : Bool) : (if p then Value.bool x else Value.bool y) = Value.bool (if p then x else y) := by split <;> rfl

theorem four_set (f : Nat → Int) (x : Nat → Value) (o : Nat) (ho : o < 4) : (if o = 3 then Value.int .i64 (f 3) else if o = 2 then .int .i64 (f 2) else if o = 1 then .int .i64 (f 1) else if o = 0 then .int .i64 (f 0) else x o) = .int .i64 (f o) := by
  rcases (by omega : o = 0 ∨ o = 1 ∨ o = 2 ∨ o = 3) with rfl | rfl | rfl | rfl <;> rfl

theorem info_int3 : (Tryd.prog.info? 3).map (fun i => (i.zero, i.size, i.bytes)) = some (some (.int .i64 0), 1, 8) := by kernel_rfl

end Go.Proofs.YtpbfdmliegjagaaDoor

namespace Go.Proofs.YtpbfdmliegjagaaDoor
open Go.RowKit

theorem gr_refl (w : World) (q : Option Nat) : w.grownBy w q := ⟨rfl, rfl, rfl, Nat.le_refl _, fun _ _ _ => rfl⟩
theorem gr_trans {w w1 w2 : World} {q : Option Nat} (h : w.grownBy w1 q) (h2 : w1.grownBy w2 q) : w.grownBy w2 q := by
  refine ⟨h2.os.trans h.os, h2.tape.trans h.tape, h2.output.trans h.output, Nat.le_trans h.size h2.size, fun k hk hne => ?_⟩
  rw [h2.block k (Nat.lt_of_lt_of_le hk h.size) hne, h.block k hk hne]
theorem gr_below {w w1 : World} (q : Option Nat) (h : Below w.heap.size w w1) : w.grownBy w1 q :=
  ⟨h.os, h.tape, h.output, h.size, fun k hk _ => h.block k hk⟩
theorem gr_only {w w1 : World} {B : Nat} (h : Only B w w1) : w.grownBy w1 (some B) :=
  ⟨h.os, h.tape, h.output, Nat.le_of_eq h.size.symm, fun k hk hne => h.block k (fun he => hne (by rw [he]))⟩
theorem gr_new {w : World} (q : Option Nat) (o : Obj) : w.grownBy (w.alloc o) q := gr_below q ((Below.refl _ _).alloc (Nat.le_refl _) o)
theorem gr_drewN {w : World} (q : Option Nat) (n : Nat) : w.grownBy (w.drewN n) q := ⟨rfl, rfl, rfl, Nat.le_refl _, fun _ _ _ => rfl⟩
theorem gr_drew {w : World} (q : Option Nat) : w.grownBy w.drew q := ⟨rfl, rfl, rfl, Nat.le_refl _, fun _ _ _ => rfl⟩
/-- The block is the call's own: nothing elder differs. -/
theorem below_gr {W w w1 : World} {B : Nat} (hB : Below W.heap.size W w) (h : w.grownBy w1 (some B)) (hW : W.heap.size ≤ B) : Below W.heap.size W w1 :=
  hB.grown h hB.size (fun q hq => by have := Option.some.inj hq; omega)

end Go.Proofs.YtpbfdmliegjagaaDoor
