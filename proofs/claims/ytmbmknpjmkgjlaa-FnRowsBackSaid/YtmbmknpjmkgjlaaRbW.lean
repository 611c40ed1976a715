/-
  Words: the rows before a row, as the program gathers them.
-/
import Derived.Test.YtmbmknpjmkgjlaaBefS
import Derived.Test.YtmbmknpjmkgjlaaSortR
import Derived.Test.YtmbmknpjmkgjlaaCpR2
import Derived.Test.YtmbmknpjmkgjlaaRow8
namespace Go.Proofs.Ytmbmknpjmkgjlaa
open Go.RowKit

def prP (P : (Nat → Int) → Bool) (L : List (List Int)) (i : Nat) : List (Nat → Int) := (L.take i).flatMap fun ts => (spL ts 16).filter P
def gL (P : (Nat → Int) → Bool) (L : List (List Int)) (i c : Nat) : List (Nat → Int) := prP P L i ++ (spL (L.getD i []) c).filter P
theorem gL_zero (P : (Nat → Int) → Bool) (L : List (List Int)) (i : Nat) : gL P L i 0 = prP P L i := by simp [gL, spL]
theorem gL_end (P : (Nat → Int) → Bool) {L : List (List Int)} {i : Nat} (h : i < L.length) : gL P L i 16 = prP P L (i + 1) := by
  unfold gL prP
  rw [List.take_add_one, List.flatMap_append, List.getElem?_eq_getElem h]
  simp [List.getD, h]
theorem gL_yes {P : (Nat → Int) → Bool} {L : List (List Int)} {i c : Nat} (hn : nB c 4 = (L.getD i []).length) (hP : P (spB c (L.getD i [])) = true) : gL P L i (c + 1) = gL P L i c ++ [spB c (L.getD i [])] := by
  unfold gL
  rw [spL_succ, if_pos hn, List.filter_append, ← List.append_assoc]
  simp only [List.filter_cons, hP, if_true, List.filter_nil]
theorem gL_not {P : (Nat → Int) → Bool} {L : List (List Int)} {i c : Nat} (hn : nB c 4 = (L.getD i []).length) (hP : P (spB c (L.getD i [])) = false) : gL P L i (c + 1) = gL P L i c := by
  unfold gL
  rw [spL_succ, if_pos hn, List.filter_append]
  simp only [List.filter_cons, hP, Bool.false_eq_true, if_false, List.filter_nil, List.append_nil]
theorem gL_no {P : (Nat → Int) → Bool} {L : List (List Int)} {i c : Nat} (hn : ¬ nB c 4 = (L.getD i []).length) : gL P L i (c + 1) = gL P L i c := by
  unfold gL
  rw [spL_succ, if_neg hn]
theorem prP_len (P : (Nat → Int) → Bool) : ∀ (L : List (List Int)) (i : Nat), (prP P L i).length ≤ 16 * L.length
  | [], i => by simp [prP]
  | ts :: L, 0 => by simp [prP]
  | ts :: L, i + 1 => by
    have ih := prP_len P L i
    have h1 := List.length_filter_le P (spL ts 16)
    have h2 := spL_len ts 16
    unfold prP at *
    rw [List.take_succ_cons, List.flatMap_cons, List.length_append, List.length_cons]
    omega
theorem gL_len (P : (Nat → Int) → Bool) (L : List (List Int)) (i c : Nat) : (gL P L i c).length ≤ 16 * L.length + c := by
  have h0 := prP_len P L i
  have h1 := List.length_filter_le P (spL (L.getD i []) c)
  have h2 := spL_len (L.getD i []) c
  unfold gL
  rw [List.length_append]
  omega
theorem prP_all (P : (Nat → Int) → Bool) (r : List Int) : prP P (apL [] r) (apL [] r).length = prL P r := by simp [prP, prL]
theorem ap_in : ∀ (r d : List Int), (∀ t ∈ r, 1 ≤ t ∧ t ≤ 17) → (∀ t ∈ d, 0 ≤ t ∧ t ≤ 17) → ∀ ts ∈ apL d r, ∀ t ∈ ts, 0 ≤ t ∧ t ≤ 17
  | [], d, _, hd, ts, h, t, ht => by
    simp only [apL] at h
    split at h
    · simp at h
    · simp at h; subst h; exact hd t ht
  | u :: r, d, hr, hd, ts, h, t, ht => by
    have hu := hr u (by simp)
    have hr' : ∀ t ∈ r, 1 ≤ t ∧ t ≤ 17 := fun x hx => hr x (List.mem_cons_of_mem _ hx)
    simp only [apL] at h
    split at h
    · simp at h
    · rcases List.mem_append.1 h with h | h
      · exact ap_in r (d ++ [u]) hr' (fun x hx => by rcases List.mem_append.1 hx with hx | hx; exact hd x hx; simp at hx; subst hx; omega) ts h t ht
      · split at h
        · exact ap_in r (d ++ [u - 1, u - 1]) hr' (fun x hx => by rcases List.mem_append.1 hx with hx | hx; exact hd x hx; simp at hx; subst hx; omega) ts h t ht
        · simp at h
theorem ap_sz : ∀ (r d : List Int), ∀ ts ∈ apL d r, ts.length ≤ 4
  | [], d, ts, h => by
    simp only [apL] at h
    split at h
    · simp at h
    · simp at h; subst h; omega
  | u :: r, d, ts, h => by
    simp only [apL] at h
    split at h
    · simp at h
    · rcases List.mem_append.1 h with h | h
      · exact ap_sz r _ ts h
      · split at h
        · exact ap_sz r _ ts h
        · simp at h
theorem getD_mem {L : List (List Int)} {i : Nat} (h : i < L.length) : L.getD i [] ∈ L := by
  simp [List.getD, h]

/-- The slice at A of slices of numbers; none of their blocks is q. -/
def LsAt (w : World) (q : Option Nat) (A : Option Addr) (L : List (List Int)) : Prop := 0 < L.length → ∃ (gl : Nat) (vals : Nat → Value), A = some ⟨gl, 0, none⟩ ∧ q ≠ some gl ∧ Has w gl L.length vals ∧ ∀ j, j < L.length → ∃ A' c, vals j = .slice A' (L.getD j []).length c ∧ NumsAt w q A' (L.getD j [])
theorem LsAt.call {w w' : World} {q : Option Nat} {A : Option Addr} {L : List (List Int)} (h : LsAt w q A L) (hb : Below w.heap.size w w') : LsAt w' q A L := by
  intro hl
  obtain ⟨gl, vals, hA, hq, hH, hj⟩ := h hl
  exact ⟨gl, vals, hA, hq, hH.call hb, fun j hlt => by obtain ⟨A', c, e, hN⟩ := hj j hlt; exact ⟨A', c, e, hN.call hb⟩⟩
theorem LsAt.next {w w' : World} {q q' : Option Nat} {A : Option Addr} {L : List (List Int)} (h : LsAt w q A L) (hg : w.grownBy w' q) (hq : q' = q ∨ ∀ g, q' = some g → w.heap.size ≤ g) : LsAt w' q' A L := by
  intro hl
  obtain ⟨gl, vals, hA, hne, hH, hj⟩ := h hl
  refine ⟨gl, vals, hA, ?_, hH.grown hg hne, fun j hlt => by obtain ⟨A', c, e, hN⟩ := hj j hlt; exact ⟨A', c, e, hN.next hg hq⟩⟩
  rcases hq with rfl | hq
  · exact hne
  · intro he
    have h1 := hq gl he
    have h2 := hH.2.2
    omega
theorem NumsAt.empty {w : World} {q : Option Nat} {A : Option Addr} {l : List Int} {E : Nat} (h : NumsAt w q A l) (he : ∀ o, w.cell? ⟨E, o, none⟩ = none) : NumsAt w (some E) A l := by
  intro hl
  obtain ⟨g, o, N, c, rfl, hne, hle, hH, hc⟩ := h hl
  refine ⟨g, o, N, c, rfl, fun hE => ?_, hle, hH, hc⟩
  have h1 := hH.1 0 (by omega)
  cases hE
  rw [he 0] at h1
  cases h1
theorem ls_of_aps {w : World} {B0 E : Nat} {v : Value} {L : List (List Int)} (h : ApS w B0 v L) (he : ∀ o, w.cell? ⟨E, o, none⟩ = none) : ∃ A c, v = .slice A L.length c ∧ LsAt w (some E) A L := by
  obtain ⟨vals, own, hvl, hj⟩ := h
  obtain ⟨A, c, rfl, _, hS⟩ := own_sl own
  refine ⟨A, c, rfl, fun hl => ?_⟩
  obtain ⟨gl, rfl, _, hH⟩ := hS (by omega)
  refine ⟨gl, fun o => vals.getD o undef, rfl, fun hE => ?_, by simpa using hH, fun j hlt => ?_⟩
  · have h1 := hH.1 0 (by omega)
    cases hE
    rw [he 0] at h1
    cases h1
  · obtain ⟨A', c', e, hN⟩ := hj j hlt
    exact ⟨A', c', by simp [List.getD, e], hN.empty he⟩
theorem empty_new {w w1 w2 : World} {T : TypeId} (hW : w.alloc (.cells #[] T) = w1) (hb : Below w1.heap.size w1 w2) : ∀ o, w2.cell? ⟨w.heap.size, o, none⟩ = none := by
  intro o
  rw [(bcell hb).1 _ _ (by rw [← hW]; simp), ← hW]
  rw [cell_of_row _ _ _ _ _ _ (heap_alloc_new w _)]
  simp
theorem own_has {w : World} {base e size n g cap : Nat} {xs : List Value} (h : w.ownsRow base e size (.slice (some ⟨g, 0, none⟩) n cap) n xs) : Has w g (n * size) (fun o => xs.getD o undef) ∧ base ≤ g ∧ n ≤ cap := by
  have hlen := h.1
  rcases h.2 with ⟨h1, _⟩ | ⟨g', cap', cur, h1, hg, hh, hnc, _, _, _⟩
  · cases h1
  · cases h1
    refine ⟨⟨fun o ho => ?_, fun o => h.frozenAt o, (Array.getElem?_eq_some_iff.1 hh).1⟩, hg, hnc⟩
    rw [h.cellAt o ho]
    have hlt : o < xs.length := by omega
    simp [hlt]
theorem own_some {w : World} {base e size n : Nat} {v : Value} {xs : List Value} (h : w.ownsRow base e size v n xs) (hv : v ≠ .slice none 0 0) : ∃ g cap, v = .slice (some ⟨g, 0, none⟩) n cap := by
  rcases h.2 with ⟨h1, _⟩ | ⟨g', cap', cur, h1, _⟩
  · exact absurd h1 hv
  · exact ⟨g', cap', h1⟩
theorem flP_flI {r : Nat → Int} (hr : ∀ i, i < 4 → 0 ≤ r i ∧ r i ≤ 17) : flI r = decide (flP r) := by
  rw [flI_eq hr, Bool.eq_iff_iff, decide_eq_true_eq]
  have h0 := hr 0 (by omega); have h1 := hr 1 (by omega); have h2 := hr 2 (by omega); have h3 := hr 3 (by omega)
  simp only [flB, Bool.and_eq_true, Bool.not_eq_true', Bool.and_eq_false_iff, decide_eq_false_iff_not]
  constructor
  · rintro ⟨a, b, c⟩ k hk hz
    rcases (by omega : k = 0 ∨ k = 1 ∨ k = 2) with rfl | rfl | rfl
    · show r 1 = 0; omega
    · show r 2 = 0; omega
    · show r 3 = 0; omega
  · intro h
    have a := h 0 (by omega); have b := h 1 (by omega); have c := h 2 (by omega)
    simp only [Nat.zero_add, Nat.reduceAdd] at a b c
    refine ⟨?_, ?_, ?_⟩
    · by_cases z : r 0 = 0
      · exact .inl (by have := a z; omega)
      · exact .inr z
    · by_cases z : r 1 = 0
      · exact .inl (by have := b z; omega)
      · exact .inr z
    · by_cases z : r 2 = 0
      · exact .inl (by have := c z; omega)
      · exact .inr z
theorem prior_cells {r : Nat → Int} (hr : ∀ i, i < 4 → 0 ≤ r i ∧ r i ≤ 17) (hfl : flP r) {l' : List (Nat → Int)} (hq : l'.Perm (prL (slP r) (tilesL r))) (hs : l'.Pairwise fun a c => ltR c a = false) :
    (cpA eqR l').length = (rbL r).length ∧ ∀ o, o < (rbL r).length * 4 → rsC (cpA eqR l') o = rsC (rbL r) o := by
  have hp := preL_in hr
  have hl := (pre_at r).1
  rw [← preL_flush hr hfl] at hq
  obtain ⟨h1, h2⟩ := prior_same (slP r) (fun t ht => by have := hp t ht; omega) hl hq hs
  have h1' : (cpA eqR l').length = (rbL r).length := h1
  refine ⟨h1', fun o ho => ?_⟩
  have hlt : o / 4 < (rbL r).length := by omega
  have e := h2 (o / 4) _ _ (atL_get (l := cpA eqR l') (by rw [h1']; exact hlt)) (atL_get (l := rbL r) hlt)
  show Value.int .i64 (atR (cpA eqR l') (o / 4) (o % 4)) = Value.int .i64 (atR (rbL r) (o / 4) (o % 4))
  rw [eqR_true.1 e (o % 4) (by omega)]

end Go.Proofs.Ytmbmknpjmkgjlaa
