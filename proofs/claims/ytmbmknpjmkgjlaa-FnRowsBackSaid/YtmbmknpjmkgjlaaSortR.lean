/-
  Contract: slices.SortFunc at rows, in their order.
-/
import Derived.Test.YtmbmknpjmkgjlaaOrdR
import Derived.Test.YtmbmknpjmkgjlaaSortShelf
namespace Go.Proofs.Ytmbmknpjmkgjlaa
open Go.RowKit Go.Sort

theorem lt_cmR (x y : Nat → Int) : ltOf cmR x y = ltR x y := cmR_lt x y
theorem swo_cmR : SWO (ltOf cmR) where
  irrefl x := by rw [lt_cmR]; exact ordR.irrefl x x (ordR.refl x)
  trans x y z h1 h2 := by rw [lt_cmR] at *; exact ordR.trans x y z h1 h2
  ntrans x y z h1 h2 := by rw [lt_cmR] at *; exact ordR.ntrans h1 h2
theorem c4_get (b : Nat → Int) {r : Nat} (h : r < 4) : (c4 b)[r]! = .int .i64 (b r) := by
  rcases p4 h with rfl | rfl | rfl | rfl <;> rfl
theorem flat_rs (l : List (Nat → Int)) {j : Nat} (h : j < l.length * 4) : (flatK c4 4 l.toArray)[j]! = rsC l j := by
  rw [get_flatK c4 4 _ j (by simpa using h), c4_get _ (Nat.mod_lt _ (by decide))]
  have hlt : j / 4 < l.length := by omega
  have e : l.toArray[j / 4]! = atR l (j / 4) := by
    rw [getElem!_pos l.toArray (j / 4) (by simpa using hlt)]
    simp [atR, hlt]
  rw [e]; rfl
theorem holds_rs {w : World} {g : Nat} {l : List (Nat → Int)} : HoldsK c4 4 w g 0 l.toArray ↔ ∀ j, j < l.length * 4 → w.cell? ⟨g, j, none⟩ = some (rsC l j) ∧ w.frozen? ⟨g, j, none⟩ = false := by
  unfold HoldsK Holds
  constructor
  · intro h j hj
    have := h j (by simpa using hj)
    rw [Nat.zero_add, flat_rs l hj] at this
    exact this
  · intro h j hj
    have hj' : j < l.length * 4 := by simpa using hj
    rw [Nat.zero_add, flat_rs l hj']
    exact h j hj'
theorem sort_grown {α : Type} [Inhabited α] (enc : α → List Value) (k : Nat) (w : World) (g n : Nat) (d : Array α) (os : Array Obj) : w.grownBy (sortWorldK enc k w g 0 n d os) (some g) := by
  refine ⟨rfl, rfl, rfl, ?_, fun j hj hne => ?_⟩
  · simp [sortWorldK, grow, putRowK, putRow, mapBlock]
  · have hg : j ≠ g := fun h => hne (by rw [h])
    have hj2 : j < (putRowK enc k (Sort.ahead w n) g 0 d).heap.size := by simpa [putRowK, putRow, mapBlock, Sort.ahead] using hj
    show ((putRowK enc k (Sort.ahead w n) g 0 d).heap ++ os)[j]? = _
    rw [Array.getElem?_append_left hj2]
    simp [putRowK, putRow, mapBlock, Sort.ahead, Array.getElem?_modify, Ne.symm hg]

theorem cmp_lays (g size : Nat) (w : World) : CmpLays Try.prog 73 #[] c4 4 cmR g 0 size w := fun m os dk _ x y => by
  have h := (order_R x y (sortWorldK c4 4 w g 0 m dk os)).mono fun e w' ⟨he, hb, hd⟩ => (⟨he, gro_of hb hd⟩ : e = Ending.returned (.int .i64 (cmR x y)) ∧ ∃ q os', w' = grow ((sortWorldK c4 4 w g 0 m dk os).drewN q) os')
  exact h

theorem sortR_any (l : List (Nat → Int)) (hl : l.length ≤ 65536) (g cap : Nat) (w : World) (hH : Has w g (l.length * 4) (rsC l)) :
    Calls Try.prog 72 #[.slice (some ⟨g, 0, none⟩) l.length cap, .func (.func 73) #[] #[]] w fun e w' => e = .returned (.tuple #[]) ∧
      ∃ l' : List (Nat → Int), l'.Perm l ∧ l'.Pairwise (fun a b => ltR b a = false) ∧ Has w' g (l.length * 4) (rsC l') ∧ w.grownBy w' (some g) := by
  have h0 : HoldsK c4 4 w g 0 l.toArray := holds_rs.2 fun j hj => ⟨hH.1 j hj, hH.2.1 j⟩
  have h := Try.slices_SortFunc 4 Try.isAgg22 Try.sizeOf22 c4 (fun _ => rfl) (fun x v hv => c4_ints x v hv) cmR swo_cmR 73 #[] g 0 cap l.toArray w
    (enters_of Try.func73 (by kernel_rfl) rfl) (cmp_lays g _ w) h0 hH.2.2 (by simp; omega)
  refine h.mono ?_
  rintro e w' ⟨he, d', n, os, hp, hs, rfl⟩
  have hsz : d'.size = l.length := by simpa using hp.1
  have hpl : d'.toList.Perm l := by
    have := hp.2.2
    have e1 : (d'.extract 0 l.length).toList = d'.toList := by rw [← hsz, Array.extract_size]
    have e2 : (l.toArray.extract 0 l.length).toList = l := by simp
    have e3 : l.toArray.size = l.length := by simp
    rw [e3, e1, e2] at this
    exact this
  refine ⟨he, d'.toList, hpl, ?_, ⟨?_, ?_, ?_⟩, sort_grown _ _ _ _ _ _ _⟩
  · rw [List.pairwise_iff_getElem]
    intro i j hi hj hij
    have h1 := hs i j (Nat.zero_le _) hij (by simp at hj; simp; omega)
    rw [lt_cmR, getElem!_pos d' j (by simpa using hj), getElem!_pos d' i (by simpa using hi)] at h1
    simpa using h1
  · have h3 := holdsK_sortWorldK_c c4 4 w g 0 l.toArray d' n os h0 hH.2.2 (by simpa using hsz)
    rw [show d' = d'.toList.toArray by simp] at h3
    intro o ho
    have := (holds_rs.1 h3 o (by simpa [hsz] using ho)).1
    simpa using this
  · intro o
    have hb : g < (putRowK c4 4 (Sort.ahead w n) g 0 d').heap.size := by simpa [putRowK, putRow, mapBlock, Sort.ahead] using hH.2.2
    show (grow (putRowK c4 4 (Sort.ahead w n) g 0 d') os).frozen? _ = _
    rw [frozen?_grow _ _ _ hb]
    unfold putRowK
    rw [frozen?_putRow, frozen?_ahead]
    exact hH.2.1 o
  · exact Nat.lt_of_lt_of_le hH.2.2 (sort_grown c4 4 w g n d' os).size

end Go.Proofs.Ytmbmknpjmkgjlaa
