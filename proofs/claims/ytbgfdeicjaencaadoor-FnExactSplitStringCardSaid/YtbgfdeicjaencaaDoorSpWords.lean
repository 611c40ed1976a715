/-
  Words for SplitString: the parts of a list of bytes; both splits are one.
-/
import Derived.Test.YtbgfdeicjaencaaDoorSplit
import Derived.Lib.SplitLaws
import Derived.Lib.IndexBytes
namespace Go.Proofs.YtbgfdeicjaencaaDoor
open Go.RowKit

def spL (c : UInt8) : List UInt8 → List (List UInt8)
  | [] => [[]]
  | a :: l => if a = c then [] :: spL c l else match spL c l with | [] => [[a]] | h :: t => (a :: h) :: t
theorem spL_ne (c : UInt8) : ∀ l, spL c l ≠ []
  | [] => by simp [spL]
  | a :: l => by
    simp only [spL]
    split
    · simp
    · split <;> simp
theorem spL_snoc (c x : UInt8) : ∀ (l : List UInt8) (ps : List (List UInt8)) (q : List UInt8), spL c l = ps ++ [q] → spL c (l ++ [x]) = if x = c then ps ++ [q, []] else ps ++ [q ++ [x]]
  | [], ps, q, h => by
    have h2 : ps = [] ∧ q = [] := by
      cases ps with
      | nil => simp [spL] at h; exact ⟨rfl, h⟩
      | cons y ys => simp [spL] at h
    obtain ⟨rfl, rfl⟩ := h2
    by_cases e : x = c
    · subst e; simp [spL]
    · simp [spL, e]
  | a :: l, ps, q, h => by
    obtain ⟨ps', q', h'⟩ : ∃ ps' q', spL c l = ps' ++ [q'] := ⟨_, _, (List.dropLast_concat_getLast (spL_ne c l)).symm⟩
    have ih := spL_snoc c x l ps' q' h'
    simp only [List.cons_append, spL]
    simp only [spL] at h
    by_cases ea : a = c
    · rw [if_pos ea] at h ⊢
      rw [h', ← List.cons_append] at h
      obtain ⟨e1, e2⟩ := List.append_inj' h rfl
      simp at e2
      subst e1 e2
      rw [ih]
      by_cases e : x = c
      · simp [e]
      · simp [e]
    · rw [if_neg ea] at h ⊢
      rw [h'] at h
      cases ps' with
      | nil =>
        have h0 : (a :: q') :: ([] : List (List UInt8)) = ps ++ [q] := h
        cases ps with
        | cons y ys => simp at h0
        | nil =>
          simp at h0
          subst h0
          rw [ih]
          by_cases e : x = c
          · simp [e]
          · simp [e]
      | cons y ys =>
        have h0 : (a :: y) :: (ys ++ [q']) = ps ++ [q] := h
        rw [← List.cons_append] at h0
        obtain ⟨e1, e2⟩ := List.append_inj' h0 rfl
        simp at e2
        subst e1 e2
        rw [ih]
        by_cases e : x = c
        · simp [e]
        · simp [e]

theorem ext_list (s : ByteArray) (f k : Nat) : (s.extract f k).data.toList = (s.data.toList.take k).drop f := by
  rw [ByteArray.data_extract, Array.toList_extract, List.extract_eq_drop_take', List.drop_take]
theorem spTo_lists (s : ByteArray) (c : UInt8) : ∀ k, k ≤ s.size → spL c (s.data.toList.take k) = (spTo s c k).1.map (·.data.toList) ++ [(s.data.toList.take k).drop (spTo s c k).2]
  | 0, _ => by simp [spTo, spL]
  | k + 1, h => by
    have ih := spTo_lists s c k (by omega)
    have hle := (spTo_le s c k).1
    have hlt : k < s.data.toList.length := by simp; omega
    have e : s.data.toList.take (k + 1) = s.data.toList.take k ++ [s.data.toList.getD k 0] := by
      rw [List.take_add_one, List.getD_eq_getElem?_getD, List.getElem?_eq_getElem hlt]; rfl
    have es : spTo s c (k + 1) = if s.data.toList.getD k 0 = c then ((spTo s c k).1 ++ [s.extract (spTo s c k).2 k], k + 1) else spTo s c k := rfl
    rw [es, e, spL_snoc c _ _ _ _ ih]
    have hl : (s.data.toList.take k).length = k := by rw [List.length_take]; omega
    by_cases hc : s.data.toList.getD k 0 = c
    · rw [if_pos hc, if_pos hc]
      have e2 : (s.data.toList.take k ++ [s.data.toList.getD k 0]).drop (k + 1) = [] := List.drop_eq_nil_of_le (by rw [List.length_append, hl]; exact Nat.le_refl _)
      show _ = ((spTo s c k).1 ++ [s.extract (spTo s c k).2 k]).map (·.data.toList) ++ [(s.data.toList.take k ++ [s.data.toList.getD k 0]).drop (k + 1)]
      rw [e2, List.map_append, List.append_assoc]
      simp only [List.map_cons, List.map_nil, ext_list, List.singleton_append]
    · rw [if_neg hc, if_neg hc]
      have e2 : (s.data.toList.take k ++ [s.data.toList.getD k 0]).drop (spTo s c k).2 = (s.data.toList.take k).drop (spTo s c k).2 ++ [s.data.toList.getD k 0] := List.drop_append_of_le_length (by omega)
      rw [e2]
theorem spR_lists (s : ByteArray) (c : UInt8) : (spR s c).map (·.data.toList) = spL c s.data.toList := by
  have h := spTo_lists s c s.size (Nat.le_refl _)
  have e : s.data.toList.take s.size = s.data.toList := List.take_of_length_le (by simp)
  rw [e] at h
  unfold spR
  rw [h, List.map_append]
  simp only [List.map_cons, List.map_nil, ext_list, e]

theorem spL_none {c : UInt8} : ∀ {l : List UInt8}, (∀ a, a ∈ l → a ≠ c) → spL c l = [l]
  | [], _ => rfl
  | a :: l, h => by
    simp only [spL]
    rw [if_neg (h a (List.mem_cons_self ..)), spL_none fun x hx => h x (List.mem_cons_of_mem _ hx)]
theorem spL_hit {c : UInt8} (r : List UInt8) : ∀ {p : List UInt8}, (∀ a, a ∈ p → a ≠ c) → spL c (p ++ c :: r) = p :: spL c r
  | [], _ => by simp [spL]
  | a :: p, h => by
    simp only [List.cons_append, spL]
    rw [if_neg (h a (List.mem_cons_self ..)), spL_hit r fun x hx => h x (List.mem_cons_of_mem _ hx)]
theorem ixB_none {c : UInt8} : ∀ {l : List UInt8}, Lib.indexByte l c = -1 → ∀ a, a ∈ l → a ≠ c
  | [], _, a, h => by simp at h
  | b :: l, h, a, ha => by
    unfold Lib.indexByte at h
    split at h
    · cases h
    · rename_i hb
      split at h
      · rename_i h2
        rcases List.mem_cons.1 ha with rfl | ha
        · simpa using hb
        · exact ixB_none (by simpa using h2) a ha
      · have := Lib.indexByte_ge l c; omega
theorem ixB_hit {c : UInt8} : ∀ {l : List UInt8} {i : Nat}, Lib.indexByte l c = (i : Int) → l = l.take i ++ c :: l.drop (i + 1) ∧ i < l.length ∧ ∀ a, a ∈ l.take i → a ≠ c
  | [], i, h => by unfold Lib.indexByte at h; omega
  | b :: l, i, h => by
    unfold Lib.indexByte at h
    split at h
    · rename_i hb
      have : i = 0 := by omega
      subst this
      have hb : b = c := by simpa using hb
      subst hb
      simp
    · rename_i hb
      split at h
      · omega
      · rename_i h2
        have hge := Lib.indexByte_ge l c
        have hne : Lib.indexByte l c ≠ -1 := by simpa using h2
        obtain ⟨j, rfl⟩ : ∃ j, i = j + 1 := ⟨i - 1, by omega⟩
        obtain ⟨h3, h4, h5⟩ := ixB_hit (l := l) (i := j) (c := c) (by omega)
        refine ⟨?_, by simp; omega, ?_⟩
        · rw [List.take_succ_cons, List.drop_succ_cons, List.cons_append, ← h3]
        · intro a ha
          rw [List.take_succ_cons] at ha
          rcases List.mem_cons.1 ha with rfl | ha
          · simpa using hb
          · exact h5 a ha
theorem splitB_lists (c : UInt8) : ∀ (n : Nat) (s : ByteArray), s.size ≤ n → (Lib.splitB ⟨#[c]⟩ 0 (Lib.countB s ⟨#[c]⟩) s).map (·.data.toList) = spL c s.data.toList := by
  intro n
  induction n with
  | zero =>
    intro s hs
    have hl : s.data.toList = [] := List.length_eq_zero_iff.1 (by rw [Array.length_toList]; show s.size = 0; omega)
    have hi : Lib.indexB s ⟨#[c]⟩ = -1 := by
      show Lib.index s.data.toList [c] = -1
      rw [Lib.index_one, hl]; rfl
    rw [Lib.splitB_miss _ _ _ _ hi, hl]
    simp [spL, hl]
  | succ n ih =>
    intro s hs
    have e1 : Lib.indexB s ⟨#[c]⟩ = Lib.indexByte s.data.toList c := Lib.index_one _ _
    have hge := Lib.indexByte_ge s.data.toList c
    by_cases h : Lib.indexByte s.data.toList c = -1
    · rw [Lib.splitB_miss _ _ _ _ (e1.trans h), spL_none (ixB_none h)]
      rfl
    · obtain ⟨i, hi⟩ : ∃ i : Nat, Lib.indexByte s.data.toList c = (i : Int) := ⟨(Lib.indexByte s.data.toList c).toNat, by omega⟩
      obtain ⟨h1, h2, h3⟩ := ixB_hit hi
      have e2 := Lib.countB_hit s ⟨#[c]⟩ i (Nat.le_refl _) (e1.trans hi)
      have e3 : Lib.countB s ⟨#[c]⟩ = Lib.countB (s.extract (i + (⟨#[c]⟩ : ByteArray).size) s.size) ⟨#[c]⟩ + 1 := by omega
      rw [e3, Lib.splitB_hit _ _ _ _ i (e1.trans hi), List.map_cons]
      have hsz : (⟨#[c]⟩ : ByteArray).size = 1 := rfl
      rw [hsz, ih (s.extract (i + 1) s.size) (by rw [ByteArray.size_extract]; omega)]
      have e4 : (s.extract (i + 1) s.size).data.toList = s.data.toList.drop (i + 1) := by
        rw [ext_list, List.take_of_length_le (by simp)]
      have e5 : (s.extract 0 (i + 0)).data.toList = s.data.toList.take i := by rw [ext_list]; simp
      rw [e4, e5]
      conv => rhs; rw [h1]
      exact (spL_hit _ h3).symm
theorem map_inj {l m : List ByteArray} (h : l.map (·.data.toList) = m.map (·.data.toList)) : l = m := by
  refine List.map_inj_right (f := fun s : ByteArray => s.data.toList) ?_ |>.1 h
  intro x y hxy
  apply ByteArray.ext
  exact Array.toList_inj.1 hxy
theorem split_one (s : ByteArray) (c : UInt8) : Lib.splitB ⟨#[c]⟩ 0 (Lib.countB s ⟨#[c]⟩) s = spR s c :=
  map_inj ((splitB_lists c s.size s (Nat.le_refl _)).trans (spR_lists s c).symm)
theorem split_len (s : ByteArray) (c : UInt8) : Lib.countB s ⟨#[c]⟩ + 1 = (spR s c).length := by
  rw [← split_one, Lib.splitB_all _ (Nat.le_refl _) 0 _ s rfl]

/-- What SplitString hands back. -/
def ssOk (s sep : ByteArray) : Bool := decide (s.size ≤ 4000) && decide (sep.size = 1)
def ssL (s sep : ByteArray) : List ByteArray := if ssOk s sep = true then spR s (sep.data.toList.getD 0 0) else []
def fS (l : List ByteArray) : Nat → ByteArray := fun o => l.getD o ByteArray.empty
theorem ssL_len (s sep : ByteArray) : (ssL s sep).length ≤ 4001 := by
  unfold ssL
  split
  · rename_i h
    have h2 : s.size ≤ 4000 := by simp [ssOk] at h; exact h.1
    have := (spR_len s (sep.data.toList.getD 0 0)).2
    omega
  · simp

end Go.Proofs.YtbgfdeicjaencaaDoor
