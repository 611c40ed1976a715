/-
  Words for slices that lie in blocks (the strings' seat).
-/
import Derived.Test.YtpbfdmliegjagaaDoorBase0
import Derived.OwnWalk
import Derived.Laws.OwnMore
import Derived.Maps.AppendAt
import Derived.Test.YtpbfdmliegjagaaDoorShelf
import Derived.Lib.IndexAny
import Derived.Deep.DeepCutAuto
import Derived.Lib.SplitLaws
import Derived.Lib.IndexBytes
import Derived.Lib.ItoaMem
import Derived.Lib.ItoaLen
namespace Go.Proofs.YtpbfdmliegjagaaDoor
open Go.RowKit

/-- The slice at A of n elements, k cells in all: where k is not 0 it begins a block from B on that holds the cells c. -/
def Sl (w : World) (B : Nat) (A : Option Addr) (k : Nat) (c : Nat → Value) : Prop := 0 < k → ∃ g, A = some ⟨g, 0, none⟩ ∧ B ≤ g ∧ Has w g k c

theorem Has.below {W w2 : World} {B0 B n : Nat} {c : Nat → Value} (h : Has W B n c) (hb : Below B0 W w2) (hlt : B < B0) : Has w2 B n c :=
  ⟨fun o ho => (hb.cell (p := ⟨B, o, none⟩) hlt).trans (h.1 o ho), fun o => (hb.frozen (p := ⟨B, o, none⟩) hlt).trans (h.2.1 o), Nat.lt_of_lt_of_le h.2.2 hb.size⟩
theorem Has.grown {W w2 : World} {B n : Nat} {c : Nat → Value} {row : Option Nat} (h : Has W B n c) (hg : W.grownBy w2 row) (hne : row ≠ some B) : Has w2 B n c :=
  ⟨fun o ho => (World.cell?_of_block (a := ⟨B, o, none⟩) (hg.block B h.2.2 (Ne.symm hne))).trans (h.1 o ho), fun o => (World.frozen?_of_block (a := ⟨B, o, none⟩) (hg.block B h.2.2 (Ne.symm hne))).trans (h.2.1 o), Nat.lt_of_lt_of_le h.2.2 hg.size⟩
theorem Sl.call {w w2 : World} {B k : Nat} {A : Option Addr} {c : Nat → Value} (h : Sl w B A k c) (hb : Below w.heap.size w w2) : Sl w2 B A k c :=
  fun hk => let ⟨g, e, hB, hH⟩ := h hk; ⟨g, e, hB, hH.call hb⟩
theorem Sl.only {w w2 : World} {B B' k : Nat} {A : Option Addr} {c : Nat → Value} (h : Sl w B A k c) (hb : Only B' w w2) (hne : B' < B) : Sl w2 B A k c :=
  fun hk => let ⟨g, e, hB, hH⟩ := h hk; ⟨g, e, hB, hH.only hb (by omega)⟩
theorem Sl.alloc {w : World} {B k : Nat} {A : Option Addr} {c : Nat → Value} (h : Sl w B A k c) (o : Obj) : Sl (w.alloc o) B A k c :=
  fun hk => let ⟨g, e, hB, hH⟩ := h hk; ⟨g, e, hB, hH.alloc o⟩
theorem Sl.drewN {w : World} {B k : Nat} {A : Option Addr} {c : Nat → Value} (h : Sl w B A k c) (n : Nat) : Sl (w.drewN n) B A k c :=
  fun hk => let ⟨g, e, hB, hH⟩ := h hk; ⟨g, e, hB, hH.drewN n⟩
theorem Sl.mono {w : World} {B B' k : Nat} {A : Option Addr} {c : Nat → Value} (h : Sl w B A k c) (hB : B' ≤ B) : Sl w B' A k c :=
  fun hk => let ⟨g, e, h1, hH⟩ := h hk; ⟨g, e, Nat.le_trans hB h1, hH⟩
theorem Sl.congr {w : World} {B k : Nat} {A : Option Addr} {c d : Nat → Value} (h : Sl w B A k c) (e : ∀ o, o < k → c o = d o) : Sl w B A k d :=
  fun hk => let ⟨g, e1, hB, hH⟩ := h hk; ⟨g, e1, hB, hH.congr e⟩
theorem sl_zero (w : World) (B : Nat) (A : Option Addr) (c : Nat → Value) : Sl w B A 0 c := fun h => absurd h (Nat.lt_irrefl _)

/-- A row of the call's own reads as a slice. -/
theorem own_sl {w : World} {base e size n : Nat} {v : Value} {xs : List Value} (h : w.ownsRow base e size v n xs) : ∃ A cap, v = .slice A n cap ∧ n ≤ cap ∧ Sl w base A (n * size) (fun o => xs.getD o undef) := by
  have hlen := h.1
  rcases h.2 with ⟨rfl, rfl⟩ | ⟨g, cap, cur, rfl, hg, hh, hnc, _, _, _⟩
  · exact ⟨none, 0, rfl, Nat.le_refl _, by rw [Nat.zero_mul]; exact sl_zero _ _ _ _⟩
  · refine ⟨_, _, rfl, hnc, fun _ => ⟨g, rfl, hg, ⟨fun o ho => ?_, fun o => h.frozenAt o, (Array.getElem?_eq_some_iff.1 hh).1⟩⟩⟩
    rw [h.cellAt o ho]
    have hlt : o < xs.length := by omega
    simp [hlt]

theorem own_call {w w2 : World} {base e size n : Nat} {v : Value} {xs : List Value} (h : w.ownsRow base e size v n xs) (hb : Below w.heap.size w w2) : w2.ownsRow base e size v n xs := by
  refine ⟨h.1, ?_⟩
  rcases h.2 with h2 | ⟨g, cap, cur, e1, hg, hh, r⟩
  · exact .inl h2
  · exact .inr ⟨g, cap, cur, e1, hg, (hb.block g (Array.getElem?_eq_some_iff.1 hh).1).trans hh, r⟩
theorem own_only {w w2 : World} {base e size n B : Nat} {v : Value} {xs : List Value} (h : w.ownsRow base e size v n xs) (hb : Only B w w2) (hB : B < base) : w2.ownsRow base e size v n xs := by
  refine ⟨h.1, ?_⟩
  rcases h.2 with h2 | ⟨g, cap, cur, e1, hg, hh, r⟩
  · exact .inl h2
  · exact .inr ⟨g, cap, cur, e1, hg, (hb.block g (by omega)).trans hh, r⟩
theorem own_drewN {w : World} {base e size n : Nat} {v : Value} {xs : List Value} (h : w.ownsRow base e size v n xs) (k : Nat) : (w.drewN k).ownsRow base e size v n xs := h

theorem below_only' {w a a' : World} {B0 B : Nat} (h : Below B0 w a) (k : Only B a a') (hB : B0 ≤ B) : Below B0 w a' :=
  h.trans ⟨k.os, k.tape, k.output, Nat.le_of_eq k.size.symm, fun i hi => k.block i (by omega)⟩

end Go.Proofs.YtpbfdmliegjagaaDoor

namespace Go.Proofs.YtpbfdmliegjagaaDoor
open Go.RowKit

def stB (s : ByteArray) (c : UInt8) : Bool := s.data.toList.contains c
theorem Calls.bool_eq {P : Program} {f : FuncId} {args : Array Value} {w : World} {a b : Bool} (h : Calls P f args w fun e w' => e = .returned (.bool a) ∧ w = w') (e : a = b) : Calls P f args w fun e w' => e = .returned (.bool b) ∧ w = w' := e ▸ h
theorem data_get (s : ByteArray) (k : Nat) (h : k < s.size) : s.data.toList[k]'(by simpa using h) = s[k] := rfl
theorem stB_true {s : ByteArray} {c : UInt8} {k : Nat} (h : k < s.size) (e : s[k] = c) : stB s c = true := by
  unfold stB
  rw [List.contains_iff_mem, ← e, ← data_get s k h]
  exact List.getElem_mem _
theorem stB_false {s : ByteArray} {c : UInt8} (h : ∀ j (hj : j < s.size), s[j] ≠ c) : stB s c = false := by
  cases hs : stB s c
  · rfl
  · unfold stB at hs
    rw [List.contains_iff_mem, List.mem_iff_getElem] at hs
    obtain ⟨j, hj, e⟩ := hs
    exact absurd e (h j (by simpa using hj))
set_option maxRecDepth 100000 in
set_option maxHeartbeats 4000000 in
theorem l1Stands_any (s : ByteArray) (c : UInt8) (hs : s.size ≤ 9223372036854775807) (w : World) : Calls Tryd.prog 32 #[.string s, .int .u8 (c.toNat : Int)] w fun e w' => e = .returned (.bool (stB s c)) ∧ w = w' := by
  go_enter Tryd.func32, Tryd.ntmps32
  go_wp2
  go_loop [5] (fun i => ∃ k : Nat, k ≤ s.size ∧ i = .int .i64 k ∧ Hid (∀ j, j < k → ∀ hj : j < s.size, s[j] ≠ c)) (fun i => s.size - (intOf i).toNat)
  case atStart => exact ⟨0, Nat.zero_le _, rfl, hide (fun j hj => absurd hj (Nat.not_lt_zero _))⟩
  case round =>
    obtain ⟨k, hk, rfl, hall⟩ := hrel
    by_cases hlt : k < s.size
    · have a1 : (0 : Int) ≤ k := by omega
      have a2 : (k : Int) < s.size := by omega
      by_cases he : s[k] = c
      · have e1 : ((s[k].toNat : Int) == (c.toNat : Int)) = true := by rw [he]; simp
        have HE := hide (stB_true hlt he)
        clear he
        go_wp2
        go_ret
        exact ⟨ret_bool HE.out.symm, rfl⟩
      · have e1 : ((s[k].toNat : Int) == (c.toNat : Int)) = false := by
          simp only [beq_eq_false_iff_ne, ne_eq]
          intro h
          exact he (UInt8.toNat_inj.1 (by omega))
        have HE := hide he
        clear he
        go_wp2
        go_round
        case rel => exact ⟨k + 1, by omega, by go_num, hide (fun j hj hj2 => by
          rcases (by omega : j < k ∨ j = k) with h | rfl
          · exact hall.out j h hj2
          · exact HE.out)⟩
        case measure => simp [intOf]; omega
    · obtain rfl : k = s.size := by omega
      go_wp2
      go_ret
      exact ⟨ret_bool (stB_false fun j hj => hall.out j hj hj).symm, rfl⟩
theorem contains_st (s : ByteArray) (c : UInt8) (w : World) : Calls Tryd.prog 30 #[.string s, .string ⟨#[c]⟩] w fun e w' => e = .returned (.bool (stB s c)) ∧ w = w' :=
  (Tryd.strings_Contains_one s c w).mono fun e w' ⟨he, hw⟩ => ⟨by rw [he, stB, Lib.contains_iff_indexByte], hw.symm⟩

end Go.Proofs.YtpbfdmliegjagaaDoor

namespace Go.Proofs.YtpbfdmliegjagaaDoor
open Go.RowKit

/-- What the loop has laid behind k bytes: the parts that have ended, and where the next one begins. -/
def spTo (s : ByteArray) (c : UInt8) : Nat → List ByteArray × Nat
  | 0 => ([], 0)
  | k + 1 => if s.data.toList.getD k 0 = c then ((spTo s c k).1 ++ [s.extract (spTo s c k).2 k], k + 1) else spTo s c k
def spR (s : ByteArray) (c : UInt8) : List ByteArray := (spTo s c s.size).1 ++ [s.extract (spTo s c s.size).2 s.size]
theorem spTo_le (s : ByteArray) (c : UInt8) : ∀ k, (spTo s c k).2 ≤ k ∧ (spTo s c k).1.length ≤ k
  | 0 => ⟨Nat.le_refl _, Nat.le_refl _⟩
  | k + 1 => by
    have := spTo_le s c k
    unfold spTo
    split
    · simp; omega
    · omega
theorem spR_len (s : ByteArray) (c : UInt8) : 1 ≤ (spR s c).length ∧ (spR s c).length ≤ s.size + 1 := by
  have := spTo_le s c s.size
  simp [spR]; omega
def strsV (l : List ByteArray) : List Value := l.map Value.string
theorem info_str3 : (Tryd.prog.info? 9).map (fun i => (i.zero, i.size, i.bytes)) = some (some (.string ByteArray.empty), 1, 16) := by kernel_rfl
theorem own_made0 {w w1 : World} {T size base : Nat} (hW : w.alloc (.cells #[] T) = w1) (hb : base ≤ w.heap.size) : w1.ownsRow base T size (.slice (some ⟨w.heap.size, 0, none⟩) 0 0) 0 [] := by
  subst hW
  exact World.ownsRow_made w #[] 0 hb (Nat.zero_le _) (by simp)
theorem one_cell {wr : World} {T : TypeId} {x : Value} : ∀ (j : Nat) (u : Value), ([x] : List Value)[j]? = some u → (wr.alloc (.cells #[x] T)).cell? ((⟨wr.heap.size, 0, none⟩ : Addr).add j) = some u := by
  intro j u hj
  have hn := Has.new' (w := wr) (cs := #[x]) (T := T) (n := 1) rfl
  rw [Addr.add_lit]
  rcases (by omega : j = 0 ∨ 1 ≤ j) with rfl | h
  · simp at hj; subst hj; exact hn.1 0 (by omega)
  · rw [List.getElem?_eq_none (by simpa using h)] at hj; cases hj

end Go.Proofs.YtpbfdmliegjagaaDoor

namespace Go.Proofs.YtpbfdmliegjagaaDoor
open Go.RowKit

def spL (c : UInt8) : List UInt8 → List (List UInt8)
  | [] => [[]]
  | a :: l => if a = c then [] :: spL c l else match spL c l with | [] => [[a]] | h :: t => (a :: h) :: t
theorem spL_ne (c : UInt8) : ∀ l, spL c l ≠ []
  | [] => by simp [spL]
  | a :: l => by
    simp only [spL]
    split
    · simp
    · split <;> simp
theorem spL_snoc (c x : UInt8) : ∀ (l : List UInt8) (ps : List (List UInt8)) (q : List UInt8), spL c l = ps ++ [q] → spL c (l ++ [x]) = if x = c then ps ++ [q, []] else ps ++ [q ++ [x]]
  | [], ps, q, h => by
    have h2 : ps = [] ∧ q = [] := by
      cases ps with
      | nil => simp [spL] at h; exact ⟨rfl, h⟩
      | cons y ys => simp [spL] at h
    obtain ⟨rfl, rfl⟩ := h2
    by_cases e : x = c
    · subst e; simp [spL]
    · simp [spL, e]
  | a :: l, ps, q, h => by
    obtain ⟨ps', q', h'⟩ : ∃ ps' q', spL c l = ps' ++ [q'] := ⟨_, _, (List.dropLast_concat_getLast (spL_ne c l)).symm⟩
    have ih := spL_snoc c x l ps' q' h'
    simp only [List.cons_append, spL]
    simp only [spL] at h
    by_cases ea : a = c
    · rw [if_pos ea] at h ⊢
      rw [h', ← List.cons_append] at h
      obtain ⟨e1, e2⟩ := List.append_inj' h rfl
      simp at e2
      subst e1 e2
      rw [ih]
      by_cases e : x = c
      · simp [e]
      · simp [e]
    · rw [if_neg ea] at h ⊢
      rw [h'] at h
      cases ps' with
      | nil =>
        have h0 : (a :: q') :: ([] : List (List UInt8)) = ps ++ [q] := h
        cases ps with
        | cons y ys => simp at h0
        | nil =>
          simp at h0
          subst h0
          rw [ih]
          by_cases e : x = c
          · simp [e]
          · simp [e]
      | cons y ys =>
        have h0 : (a :: y) :: (ys ++ [q']) = ps ++ [q] := h
        rw [← List.cons_append] at h0
        obtain ⟨e1, e2⟩ := List.append_inj' h0 rfl
        simp at e2
        subst e1 e2
        rw [ih]
        by_cases e : x = c
        · simp [e]
        · simp [e]

theorem ext_list (s : ByteArray) (f k : Nat) : (s.extract f k).data.toList = (s.data.toList.take k).drop f := by
  rw [ByteArray.data_extract, Array.toList_extract, List.extract_eq_drop_take', List.drop_take]
theorem spTo_lists (s : ByteArray) (c : UInt8) : ∀ k, k ≤ s.size → spL c (s.data.toList.take k) = (spTo s c k).1.map (·.data.toList) ++ [(s.data.toList.take k).drop (spTo s c k).2]
  | 0, _ => by simp [spTo, spL]
  | k + 1, h => by
    have ih := spTo_lists s c k (by omega)
    have hle := (spTo_le s c k).1
    have hlt : k < s.data.toList.length := by simp; omega
    have e : s.data.toList.take (k + 1) = s.data.toList.take k ++ [s.data.toList.getD k 0] := by
      rw [List.take_add_one, List.getD_eq_getElem?_getD, List.getElem?_eq_getElem hlt]; rfl
    have es : spTo s c (k + 1) = if s.data.toList.getD k 0 = c then ((spTo s c k).1 ++ [s.extract (spTo s c k).2 k], k + 1) else spTo s c k := rfl
    rw [es, e, spL_snoc c _ _ _ _ ih]
    have hl : (s.data.toList.take k).length = k := by rw [List.length_take]; omega
    by_cases hc : s.data.toList.getD k 0 = c
    · rw [if_pos hc, if_pos hc]
      have e2 : (s.data.toList.take k ++ [s.data.toList.getD k 0]).drop (k + 1) = [] := List.drop_eq_nil_of_le (by rw [List.length_append, hl]; exact Nat.le_refl _)
      show _ = ((spTo s c k).1 ++ [s.extract (spTo s c k).2 k]).map (·.data.toList) ++ [(s.data.toList.take k ++ [s.data.toList.getD k 0]).drop (k + 1)]
      rw [e2, List.map_append, List.append_assoc]
      simp only [List.map_cons, List.map_nil, ext_list, List.singleton_append]
    · rw [if_neg hc, if_neg hc]
      have e2 : (s.data.toList.take k ++ [s.data.toList.getD k 0]).drop (spTo s c k).2 = (s.data.toList.take k).drop (spTo s c k).2 ++ [s.data.toList.getD k 0] := List.drop_append_of_le_length (by omega)
      rw [e2]
theorem spR_lists (s : ByteArray) (c : UInt8) : (spR s c).map (·.data.toList) = spL c s.data.toList := by
  have h := spTo_lists s c s.size (Nat.le_refl _)
  have e : s.data.toList.take s.size = s.data.toList := List.take_of_length_le (by simp)
  rw [e] at h
  unfold spR
  rw [h, List.map_append]
  simp only [List.map_cons, List.map_nil, ext_list, e]

theorem spL_none {c : UInt8} : ∀ {l : List UInt8}, (∀ a, a ∈ l → a ≠ c) → spL c l = [l]
  | [], _ => rfl
  | a :: l, h => by
    simp only [spL]
    rw [if_neg (h a (List.mem_cons_self ..)), spL_none fun x hx => h x (List.mem_cons_of_mem _ hx)]
theorem spL_hit {c : UInt8} (r : List UInt8) : ∀ {p : List UInt8}, (∀ a, a ∈ p → a ≠ c) → spL c (p ++ c :: r) = p :: spL c r
  | [], _ => by simp [spL]
  | a :: p, h => by
    simp only [List.cons_append, spL]
    rw [if_neg (h a (List.mem_cons_self ..)), spL_hit r fun x hx => h x (List.mem_cons_of_mem _ hx)]
theorem ixB_none {c : UInt8} : ∀ {l : List UInt8}, Lib.indexByte l c = -1 → ∀ a, a ∈ l → a ≠ c
  | [], _, a, h => by simp at h
  | b :: l, h, a, ha => by
    unfold Lib.indexByte at h
    split at h
    · cases h
    · rename_i hb
      split at h
      · rename_i h2
        rcases List.mem_cons.1 ha with rfl | ha
        · simpa using hb
        · exact ixB_none (by simpa using h2) a ha
      · have := Lib.indexByte_ge l c; omega
theorem ixB_hit {c : UInt8} : ∀ {l : List UInt8} {i : Nat}, Lib.indexByte l c = (i : Int) → l = l.take i ++ c :: l.drop (i + 1) ∧ i < l.length ∧ ∀ a, a ∈ l.take i → a ≠ c
  | [], i, h => by unfold Lib.indexByte at h; omega
  | b :: l, i, h => by
    unfold Lib.indexByte at h
    split at h
    · rename_i hb
      have : i = 0 := by omega
      subst this
      have hb : b = c := by simpa using hb
      subst hb
      simp
    · rename_i hb
      split at h
      · omega
      · rename_i h2
        have hge := Lib.indexByte_ge l c
        have hne : Lib.indexByte l c ≠ -1 := by simpa using h2
        obtain ⟨j, rfl⟩ : ∃ j, i = j + 1 := ⟨i - 1, by omega⟩
        obtain ⟨h3, h4, h5⟩ := ixB_hit (l := l) (i := j) (c := c) (by omega)
        refine ⟨?_, by simp; omega, ?_⟩
        · rw [List.take_succ_cons, List.drop_succ_cons, List.cons_append, ← h3]
        · intro a ha
          rw [List.take_succ_cons] at ha
          rcases List.mem_cons.1 ha with rfl | ha
          · simpa using hb
          · exact h5 a ha
theorem splitB_lists (c : UInt8) : ∀ (n : Nat) (s : ByteArray), s.size ≤ n → (Lib.splitB ⟨#[c]⟩ 0 (Lib.countB s ⟨#[c]⟩) s).map (·.data.toList) = spL c s.data.toList := by
  intro n
  induction n with
  | zero =>
    intro s hs
    have hl : s.data.toList = [] := List.length_eq_zero_iff.1 (by rw [Array.length_toList]; show s.size = 0; omega)
    have hi : Lib.indexB s ⟨#[c]⟩ = -1 := by
      show Lib.index s.data.toList [c] = -1
      rw [Lib.index_one, hl]; rfl
    rw [Lib.splitB_miss _ _ _ _ hi, hl]
    simp [spL, hl]
  | succ n ih =>
    intro s hs
    have e1 : Lib.indexB s ⟨#[c]⟩ = Lib.indexByte s.data.toList c := Lib.index_one _ _
    have hge := Lib.indexByte_ge s.data.toList c
    by_cases h : Lib.indexByte s.data.toList c = -1
    · rw [Lib.splitB_miss _ _ _ _ (e1.trans h), spL_none (ixB_none h)]
      rfl
    · obtain ⟨i, hi⟩ : ∃ i : Nat, Lib.indexByte s.data.toList c = (i : Int) := ⟨(Lib.indexByte s.data.toList c).toNat, by omega⟩
      obtain ⟨h1, h2, h3⟩ := ixB_hit hi
      have e2 := Lib.countB_hit s ⟨#[c]⟩ i (Nat.le_refl _) (e1.trans hi)
      have e3 : Lib.countB s ⟨#[c]⟩ = Lib.countB (s.extract (i + (⟨#[c]⟩ : ByteArray).size) s.size) ⟨#[c]⟩ + 1 := by omega
      rw [e3, Lib.splitB_hit _ _ _ _ i (e1.trans hi), List.map_cons]
      have hsz : (⟨#[c]⟩ : ByteArray).size = 1 := rfl
      rw [hsz, ih (s.extract (i + 1) s.size) (by rw [ByteArray.size_extract]; omega)]
      have e4 : (s.extract (i + 1) s.size).data.toList = s.data.toList.drop (i + 1) := by
        rw [ext_list, List.take_of_length_le (by simp)]
      have e5 : (s.extract 0 (i + 0)).data.toList = s.data.toList.take i := by rw [ext_list]; simp
      rw [e4, e5]
      conv => rhs; rw [h1]
      exact (spL_hit _ h3).symm
theorem map_inj {l m : List ByteArray} (h : l.map (·.data.toList) = m.map (·.data.toList)) : l = m := by
  refine List.map_inj_right (f := fun s : ByteArray => s.data.toList) ?_ |>.1 h
  intro x y hxy
  apply ByteArray.ext
  exact Array.toList_inj.1 hxy
theorem split_one (s : ByteArray) (c : UInt8) : Lib.splitB ⟨#[c]⟩ 0 (Lib.countB s ⟨#[c]⟩) s = spR s c :=
  map_inj ((splitB_lists c s.size s (Nat.le_refl _)).trans (spR_lists s c).symm)
theorem split_len (s : ByteArray) (c : UInt8) : Lib.countB s ⟨#[c]⟩ + 1 = (spR s c).length := by
  rw [← split_one, Lib.splitB_all _ (Nat.le_refl _) 0 _ s rfl]

/-- What SplitString hands back. -/
def ssOk (s sep : ByteArray) : Bool := decide (s.size ≤ 4000) && decide (sep.size = 1)
def ssL (s sep : ByteArray) : List ByteArray := if ssOk s sep = true then spR s (sep.data.toList.getD 0 0) else []
def fS (l : List ByteArray) : Nat → ByteArray := fun o => l.getD o ByteArray.empty
theorem ssL_len (s sep : ByteArray) : (ssL s sep).length ≤ 4001 := by
  unfold ssL
  split
  · rename_i h
    have h2 : s.size ≤ 4000 := by simp [ssOk] at h; exact h.1
    have := (spR_len s (sep.data.toList.getD 0 0)).2
    omega
  · simp

end Go.Proofs.YtpbfdmliegjagaaDoor

namespace Go.Proofs.YtpbfdmliegjagaaDoor
open Go.RowKit

def mkS (l : List UInt8) : ByteArray := ⟨l.toArray⟩
theorem mkS_app (l m : List UInt8) : mkS l ++ mkS m = mkS (l ++ m) := by
  apply ByteArray.ext
  simp [mkS]
theorem mkS_size (l : List UInt8) : (mkS l).size = l.length := by simp [mkS, ByteArray.size]
theorem dig_sub : ∀ t : Nat, t < 10 → ((⟨#[48, 49, 50, 51, 52, 53, 54, 55, 56, 57]⟩ : ByteArray).extract t (t + 1)) = mkS [UInt8.ofNat (48 + t)] := by decide
theorem Calls.quiet_of_draws {P : Program} {f : FuncId} {args : Array Value} {w : World} {n : Nat} {v : Value} (h : Calls P f args (w.drewN n) fun e w' => e = .returned v ∧ ∃ m, w' = (w.drewN n).drewN m) : Calls P f args (w.drewN n) fun e w'' => e = .returned v ∧ ∃ m, w'' = w.drewN m :=
  h.mono fun _ _ ⟨he, m, hm⟩ => ⟨he, n + m, hm.trans (by simp [World.drewN, Nat.add_assoc])⟩
theorem dd_small {u : Nat} (h : u < 10) : Lib.decDigits u = [UInt8.ofNat (48 + u)] := by rw [Lib.decDigits, dif_pos h]
theorem dd_big {u : Nat} (h : ¬ u < 10) : Lib.decDigits u = Lib.decDigits (u / 10) ++ [UInt8.ofNat (48 + u % 10)] := by rw [Lib.decDigits, dif_neg h]
theorem dd_len (u : Nat) (h : u ≤ 9999999) : (mkS (Lib.decDigits u)).size ≤ 30 := by
  have := Lib.itoa_length_le (u : Int) (by omega) (by omega)
  rw [Lib.itoa_nonneg] at this
  rw [mkS_size]; omega

set_option maxRecDepth 100000 in
set_option maxHeartbeats 4000000 in
theorem l1Num_nat (u : Nat) (hu : u ≤ 9999999) : ∀ w : World, Calls Tryd.prog 37 #[.int .i64 (u : Int)] w fun e w' => e = .returned (.string (mkS (Lib.decDigits u))) ∧ ∃ m, w' = w.drewN m := by
  induction u using Nat.strongRecOn with
  | ind u ih =>
    intro w
    have a0 : (0 : Int) ≤ u := by omega
    have a1 : (u : Int) ≤ 9999999 := by omega
    by_cases h10 : u < 10
    · have a2 : (u : Int) < 10 := by omega
      have HD := hide (dd_small h10)
      have hsub := hide (dig_sub u h10)
      clear ih
      go_enter Tryd.func37, Tryd.ntmps37
      go_wp2
      go_ret
      exact ⟨congrArg (fun x => Ending.returned (Value.string x)) (hsub.out.trans (by rw [HD.out])), 0, rfl⟩
    · have a2 : (10 : Int) ≤ u := by omega
      have HD := hide (dd_big h10)
      have IH := hide (ih (u / 10) (by omega) (by omega))
      clear ih
      obtain ⟨q, hq⟩ : ∃ q, q = u / 10 := ⟨_, rfl⟩
      obtain ⟨r, hr⟩ : ∃ r, r = u % 10 := ⟨_, rfl⟩
      have hr10 : r < 10 := by omega
      have r0 : (0 : Int) ≤ r := by omega
      have r1 : (r : Int) ≤ 9 := by omega
      have hsz := dd_len q (by omega)
      have hsub := hide (dig_sub r hr10)
      have e1 : (u : Int).tdiv 10 = (q : Int) := by rw [Int.tdiv_eq_ediv_of_nonneg a0]; omega
      have e2 : (u : Int).tmod 10 = (r : Int) := by rw [Int.tmod_eq_emod_of_nonneg a0]; omega
      have e3 : (u : Int) / 10 = (q : Int) := by omega
      have e4 : (u : Int) % 10 = (r : Int) := by omega
      have e5 : IntKind.i64.wrap (q : Int) = (q : Int) := IntWalk.i64_in _ (by omega)
      have e6 : IntKind.i64.wrap ((r : Int) + 1) = (r : Int) + 1 := IntWalk.i64_in _ (by omega)
      have e7 : IntKind.i64.wrap (r : Int) = (r : Int) := IntWalk.i64_in _ (by omega)
      rw [← hq] at IH
      rw [← hq, ← hr] at HD
      have HQ := hide hq
      have HR := hide hr
      clear hq hr h10
      go_enter Tryd.func37, Tryd.ntmps37
      go_wp2_with fail
      go_quiet ((go_at_call 37; exact Calls.quiet_of_draws (IH.out _)))
      go_wp2
      go_ret
      exact ⟨congrArg (fun x => Ending.returned (Value.string x)) ((congrArg (fun x => mkS (Lib.decDigits q) ++ x) hsub.out).trans ((mkS_app _ _).trans (by rw [HD.out]))), _, rfl⟩

theorem neg_sub : (⟨#[45]⟩ : ByteArray) = mkS [45] := rfl
set_option maxRecDepth 100000 in
set_option maxHeartbeats 4000000 in
theorem l1Num_neg (u : Nat) (h1 : 1 ≤ u) (hu : u ≤ 9999999) : ∀ w : World, Calls Tryd.prog 37 #[.int .i64 (-(u : Int))] w fun e w' => e = .returned (.string (mkS (45 :: Lib.decDigits u))) ∧ ∃ m, w' = w.drewN m := by
  induction u using Nat.strongRecOn with
  | ind u ih =>
    intro w
    have a0 : (1 : Int) ≤ u := by omega
    have a1 : (u : Int) ≤ 9999999 := by omega
    have a3 : -(u : Int) < 0 := by omega
    by_cases h10 : u < 10
    · have a2 : -10 < -(u : Int) := by omega
      have hsz := dd_len u (by omega)
      have HN := hide (l1Num_nat u (by omega))
      clear ih
      go_enter Tryd.func37, Tryd.ntmps37
      go_wp2_with fail
      refine (HN.out _).mono ?_
      rintro e w2 ⟨rfl, m, rfl⟩
      go_wp2
      go_ret
      exact ⟨congrArg (fun x => Ending.returned (Value.string x)) (mkS_app [45] _), m, rfl⟩
    · have a2 : -(u : Int) ≤ -10 := by omega
      have HD := hide (dd_big h10)
      have IH := hide (ih (u / 10) (by omega) (by omega) (by omega))
      clear ih
      obtain ⟨q, hq⟩ : ∃ q, q = u / 10 := ⟨_, rfl⟩
      obtain ⟨r, hr⟩ : ∃ r, r = u % 10 := ⟨_, rfl⟩
      have hr10 : r < 10 := by omega
      have r0 : (0 : Int) ≤ r := by omega
      have r1 : (r : Int) ≤ 9 := by omega
      have q1 : (1 : Int) ≤ q := by omega
      have q2 : (q : Int) ≤ 999999 := by omega
      have hsz := dd_len q (by omega)
      have HDR := hide (dd_small hr10)
      have HN := hide (l1Num_nat r (by omega))
      have hsz2 := dd_len r (by omega)
      have hsz3 : (mkS (45 :: Lib.decDigits q)).size ≤ 31 := by rw [mkS_size] at hsz ⊢; simp; omega
      have e1 : (-(u : Int)).tdiv 10 = -(q : Int) := by rw [Int.neg_tdiv, Int.tdiv_eq_ediv_of_nonneg (by omega)]; omega
      have e2 : (-(u : Int)).tmod 10 = -(r : Int) := by rw [Int.neg_tmod, Int.tmod_eq_emod_of_nonneg (by omega)]; omega
      rw [← hq] at IH
      rw [← hq, ← hr] at HD
      have HQ := hide hq
      have HR := hide hr
      clear hq hr h10
      go_enter Tryd.func37, Tryd.ntmps37
      go_wp2_with fail
      refine (IH.out _).mono ?_
      rintro e w2 ⟨rfl, m, rfl⟩
      go_wp2_with fail
      refine (HN.out _).mono ?_
      rintro e w2 ⟨rfl, m2, rfl⟩
      go_wp2
      go_ret
      exact ⟨congrArg (fun x => Ending.returned (Value.string x)) ((mkS_app _ _).trans (by rw [HD.out, HDR.out]; rfl)), m + m2, by simp [World.drewN]⟩

theorem l1Num_any (n : Int) (h0 : -9999999 ≤ n) (h1 : n ≤ 9999999) (w : World) : Calls Tryd.prog 37 #[.int .i64 n] w fun e w' => e = .returned (.string (mkS (Lib.itoa n))) ∧ Below w.heap.size w w' := by
  by_cases hn : n < 0
  · obtain ⟨u, rfl⟩ : ∃ u : Nat, n = -(u : Int) := ⟨n.natAbs, by omega⟩
    rw [Lib.itoa_neg u (by omega)]
    exact (l1Num_neg u (by omega) (by omega) w).mono fun e w' ⟨he, m, hw⟩ => ⟨he, hw ▸ below_dn (Below.refl _ _) m⟩
  · obtain ⟨u, rfl⟩ : ∃ u : Nat, n = (u : Int) := ⟨n.toNat, by omega⟩
    rw [Lib.itoa_nonneg]
    exact (l1Num_nat u (by omega) w).mono fun e w' ⟨he, m, hw⟩ => ⟨he, hw ▸ below_dn (Below.refl _ _) m⟩

end Go.Proofs.YtpbfdmliegjagaaDoor
