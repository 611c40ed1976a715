/-
  Words for JoinStrings; an argument that is a slice of strings, its copy, its size.
-/
import Derived.Test.YtbgfdeicjaencaaWrap
import Derived.Test.YtbgfdeicjaencaaShelf
import Derived.Deep.OwnRows
import Derived.Deep.DeepCutAuto
import Derived.SliceStrings
import Derived.Lib.Join
namespace Go.Proofs.Ytbgfdeicjaencaa
open Go.ChangeShapes Go.WideShapes Go.ChangeAt Go.RowKit

def mkS (l : List UInt8) : ByteArray := ⟨l.toArray⟩
theorem mkS_app (l m : List UInt8) : mkS l ++ mkS m = mkS (l ++ m) := by
  apply ByteArray.ext
  simp [mkS]
theorem mkS_data (s : ByteArray) : mkS s.data.toList = s := by
  apply ByteArray.ext
  simp [mkS]
theorem mkS_size (l : List UInt8) : (mkS l).size = l.length := by simp [mkS, ByteArray.size]

/-- The slice at A holds the n strings p. -/
def ArgT (W : World) (A : Option Addr) (n : Nat) (p : Nat → ByteArray) : Prop :=
  (∀ i, i < n → (p i).size ≤ 9223372036854775807) ∧ (0 < n → ∃ b off, A = some ⟨b, off, none⟩ ∧ b < W.heap.size ∧ ∀ i, i < n → W.cell? ⟨b, off + i, none⟩ = some (.string (p i)))
theorem ArgT.call {w w2 : World} {A : Option Addr} {n : Nat} {p : Nat → ByteArray} (h : ArgT w A n p) (hb : Below w.heap.size w w2) : ArgT w2 A n p := ⟨h.1, fun h0 => by
  obtain ⟨b, off, e, hlt, hc⟩ := h.2 h0
  exact ⟨b, off, e, Nat.lt_of_lt_of_le hlt hb.size, fun i hi => (hb.cell (p := ⟨b, off + i, none⟩) hlt).trans (hc i hi)⟩⟩

section
variable {H : Type} {enc : TypeId × Value → H}
set_option maxRecDepth 100000 in
theorem strs_arg {W : World} {r : Reach} {b0 : Nat} {t e : TypeId} {v : Value} {d : DataW H} {ps : List MemPlace} (ht : Try.prog.underlying t = some (.slice e)) (he : Try.prog.underlying e = some .string) (hc : Try.prog.cellsOf e = 1)
    (hval : Value.okWide Try.prog W r b0 t v) (hd : DataW.Trod enc Try.prog W 0 (fun _ => true) true t v d ps) :
    ∃ A n cap p, v = .slice A n cap ∧ n ≤ 9223372036854775807 ∧ Hid (ArgT W A n p) := by
  obtain ⟨a0, len, cap, rfl⟩ := okWide_slice ht hval
  obtain ⟨fuel, hf⟩ := hd
  rcases open_strings ht he hc hf with ⟨hcs, hx⟩ | ⟨a, len', cap', zs, hcs, _, hl, hm, hz, hx, hcell, hwz⟩
  · simp [Value.cells] at hcs
    obtain ⟨rfl, rfl, rfl⟩ := hcs
    exact ⟨none, 0, 0, fun _ => ByteArray.empty, rfl, by omega, fun i hi => absurd hi (Nat.not_lt_zero i), fun h => absurd h (Nat.lt_irrefl 0)⟩
  · simp [Value.cells] at hcs
    obtain ⟨rfl, rfl, rfl⟩ := hcs
    simp only [Prod.mk.injEq] at hx
    obtain ⟨rfl, rfl⟩ := hx
    simp only [if_true] at hz
    have hlz : len ≤ zs.length := by omega
    refine ⟨some a, len, cap, fun i => zs.getD i ByteArray.empty, rfl, by unfold maxLen at hm; omega, fun i hi => ?_, fun h0 => ?_⟩
    · have h1 : zs.getD i ByteArray.empty ∈ zs := by
        have hi2 : i < zs.length := by omega
        simp [hi2]
      have := hwz _ h1
      unfold maxLen at this
      exact this
    obtain ⟨b, off, spot⟩ := a
    have hspot : spot = none := by simpa [Addr.add] using World.cell?_spot (hcell 0 (by omega))
    subst hspot
    refine ⟨b, off, rfl, ?_, fun i hi => ?_⟩
    · exact World.block_lt_of_cell? W _ (hcell 0 (by omega))
    · have h1 := hcell i (by omega)
      rw [Addr.add_lit] at h1
      exact h1
end

/-- All bytes of the first k strings. -/
def tot (p : Nat → ByteArray) : Nat → Nat
  | 0 => 0
  | k + 1 => tot p k + (p k).size
theorem tot_mono (p : Nat → ByteArray) {k n : Nat} (h : k ≤ n) : tot p k ≤ tot p n := by
  induction n with
  | zero => obtain rfl : k = 0 := by omega
            exact Nat.le_refl _
  | succ n ih =>
    rcases Nat.lt_or_eq_of_le h with h1 | rfl
    · have := ih (by omega)
      show _ ≤ tot p n + _; omega
    · exact Nat.le_refl _
theorem tot_one (p : Nat → ByteArray) {k n : Nat} (h : k < n) : (p k).size ≤ tot p n := by
  have := tot_mono p (show k + 1 ≤ n by omega)
  have e : tot p (k + 1) = tot p k + (p k).size := rfl
  omega
def jL (p : Nat → ByteArray) (c : UInt8) (k : Nat) : List UInt8 := Lib.join ((List.range k).map fun j => (p j).data.toList) [c]
theorem join_snoc (sep y x : List UInt8) (r : List (List UInt8)) : Lib.join (x :: r ++ [y]) sep = Lib.join (x :: r) sep ++ sep ++ y := by
  rw [List.cons_append, Lib.join_cons, Lib.join_cons]
  simp [Lib.joinTail]
def jH (p : Nat → ByteArray) (c : UInt8) (k : Nat) : List UInt8 := if k = 0 then [] else jL p c k ++ [c]
theorem jL_succ (p : Nat → ByteArray) (c : UInt8) (k : Nat) : jL p c (k + 1) = jH p c k ++ (p k).data.toList := by
  unfold jH
  cases k with
  | zero => simp [jL, Lib.join_one]
  | succ k =>
    unfold jL
    rw [if_neg (by omega), List.range_succ, List.map_append, List.range_succ_eq_map, List.map_cons, List.map_cons, List.map_nil, join_snoc]
theorem jL_len (p : Nat → ByteArray) (c : UInt8) : ∀ k, (jL p c (k + 1)).length = tot p (k + 1) + k
  | 0 => by rw [jL_succ]; simp [jH, tot]
  | k + 1 => by
    rw [jL_succ, jH, if_neg (by omega), List.length_append, List.length_append, jL_len p c k]
    simp [tot]; omega
def stB (s : ByteArray) (c : UInt8) : Bool := s.data.toList.contains c
def Good (p : Nat → ByteArray) (n : Nat) (c : UInt8) : Prop := (∀ j, j < n → stB (p j) c = false) ∧ tot p n + (n - 1) ≤ 4000
def JR (p : Nat → ByteArray) (n : Nat) (sep : ByteArray) (s : ByteArray) (ok : Bool) : Prop :=
  (∀ c, sep = ⟨#[c]⟩ → 0 < n → Good p n c → s = mkS (jL p c n) ∧ ok = true) ∧ ((¬ ∃ c, sep = ⟨#[c]⟩ ∧ 0 < n ∧ Good p n c) → s = ⟨#[]⟩ ∧ ok = false)
open Classical in
theorem jr_ex (p : Nat → ByteArray) (n : Nat) (sep : ByteArray) : ∃ s ok, JR p n sep s ok := by
  by_cases h : ∃ c, sep = ⟨#[c]⟩ ∧ 0 < n ∧ Good p n c
  · obtain ⟨c, rfl, h0, hG⟩ := h
    refine ⟨mkS (jL p c n), true, ?_, ?_⟩
    · intro c' e _ _
      have : c' = c := by injection e with e; injection e with e; injection e with e; exact e.symm
      subst this
      exact ⟨rfl, rfl⟩
    · intro h; exact absurd ⟨c, rfl, h0, hG⟩ h
  · exact ⟨⟨#[]⟩, false, fun c e h0 hG => absurd ⟨c, e, h0, hG⟩ h, fun _ => ⟨rfl, rfl⟩⟩
theorem one_byte {s : ByteArray} (h : s.size = 1) : ∃ c, s = ⟨#[c]⟩ := by
  obtain ⟨⟨l⟩⟩ := s
  match l, h with
  | [c], _ => exact ⟨c, rfl⟩

end Go.Proofs.Ytbgfdeicjaencaa
