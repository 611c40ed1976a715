/-
  Plain words: the rows before a row are at most 48; each slides to it; a row stands among those before the row that it slides to.
-/
import Derived.Test.YtmbmknpjmkgjlaaPriorR
import Derived.Test.YtmbmknpjmkgjlaaBestMath
import Derived.Test.YtmbmknpjmkgjlaaImg
import Derived.Test.YtmbmknpjmkgjlaaRowNumber
import Derived.Test.YtmbmknpjmkgjlaaRow4
namespace Go.Proofs.Ytmbmknpjmkgjlaa

/-- The rows before a row, as its contract has them. -/
def rbP (r : Nat → Int) : List (Nat → Int) := putO ltR eqR (rfL (slP r) (preL r) 16)
theorem foldl_mem {α : Type} {lt eq : α → α → Bool} (x : α) : ∀ (L acc : List α), x ∈ L.foldl (adO lt eq) acc → x ∈ acc ∨ x ∈ L
  | [], _, h => .inl h
  | b :: L, acc, h => by
    rcases foldl_mem x L _ h with h1 | h1
    · rcases mem_ad acc b x h1 with rfl | h2
      · exact .inr (by simp)
      · exact .inl h2
    · exact .inr (List.mem_cons_of_mem _ h1)
theorem putO_mem {α : Type} {lt eq : α → α → Bool} {x : α} {L : List α} (h : x ∈ putO lt eq L) : x ∈ L := by
  rcases foldl_mem x L [] h with h | h
  · cases h
  · exact h
/-- Each row before a row slides to it, and is a row. -/
theorem rbP_mem {r x : Nat → Int} (hr : ∀ i, i < 4 → 0 ≤ r i ∧ r i ≤ 17) (h : x ∈ rbP r) : slP r x = true ∧ ∀ j, 0 ≤ x j ∧ x j ≤ 17 := by
  have h1 := putO_mem h
  simp only [rfL, List.mem_flatMap, List.mem_filter, List.mem_map, List.mem_range, spL] at h1
  obtain ⟨ts, ⟨⟨c, _, rfl⟩, _⟩, ⟨d, _, rfl⟩, hP⟩ := h1
  have hts : ∀ t ∈ exL c 0 (preL r), 0 ≤ t ∧ t ≤ 17 := by rw [exM_eq]; exact exM_in _ _ (preL_in hr)
  exact ⟨hP, fun j => spB_in hts d j⟩
theorem apL_ge : ∀ (r d ts : List Int), ts ∈ apL d r → d.length + r.length ≤ ts.length
  | [], d, ts, h => by
    simp only [apL] at h
    split at h
    · simp at h
    · simp at h; subst h; simp
  | t :: r, d, ts, h => by
    simp only [apL] at h
    split at h
    · simp at h
    · rcases List.mem_append.1 h with h | h
      · have := apL_ge r _ ts h
        simp at this ⊢; omega
      · split at h
        · have := apL_ge r _ ts h
          simp at this ⊢; omega
        · simp at h
theorem apL_cnt : ∀ (r d : List Int), (apL d r).length ≤ 2 ^ r.length
  | [], d => by
    simp only [apL]
    split <;> simp
  | t :: r, d => by
    have h1 := apL_cnt r (d ++ [t])
    have h2 := apL_cnt r (d ++ [t - 1, t - 1])
    have e : 2 ^ (t :: r).length = 2 ^ r.length + 2 ^ r.length := by rw [List.length_cons, Nat.pow_succ]; omega
    rw [e]
    simp only [apL]
    split
    · simp
    · rw [List.length_append]
      split
      · omega
      · simp; omega
def cN (k : Nat) : Nat := ((List.range 16).filter fun c => nB c 4 == k).length
theorem spL_cN (ts : List Int) : (spL ts 16).length = cN ts.length := by simp [spL, cN]
theorem cN_six {k : Nat} (h : k ≤ 4) : cN k ≤ 6 := by
  rcases (by omega : k = 0 ∨ k = 1 ∨ k = 2 ∨ k = 3 ∨ k = 4) with rfl | rfl | rfl | rfl | rfl <;> decide
theorem cN_four : cN 4 = 1 := by decide
theorem flat_le {α β : Type} (f : α → List β) (m : Nat) : ∀ l : List α, (∀ a ∈ l, (f a).length ≤ m) → (l.flatMap f).length ≤ l.length * m
  | [], _ => by simp
  | a :: l, h => by
    have h1 := flat_le f m l (fun x hx => h x (List.mem_cons_of_mem _ hx))
    have h2 := h a (by simp)
    rw [List.flatMap_cons, List.length_append, List.length_cons, Nat.add_mul]
    omega
theorem ap_four : ∀ (r d ts : List Int), ts ∈ apL d r → ts.length ≤ 4
  | [], d, ts, h => by
    simp only [apL] at h
    split at h
    · simp at h
    · simp at h; subst h; omega
  | t :: r, d, ts, h => by
    simp only [apL] at h
    split at h
    · simp at h
    · rcases List.mem_append.1 h with h | h
      · exact ap_four r _ ts h
      · split at h
        · exact ap_four r _ ts h
        · simp at h
theorem prL_le (P : (Nat → Int) → Bool) {r : List Int} (hl : r.length ≤ 4) : (prL P r).length ≤ 48 := by
  have hc := apL_cnt r []
  unfold prL
  by_cases h4 : r.length = 4
  · have h1 := flat_le (fun ts => (spL ts 16).filter P) 1 (apL [] r) (fun ts hts => by
      have g1 := apL_ge r [] ts hts
      have g2 := ap_four r [] ts hts
      have g3 : ts.length = 4 := by simp at g1; omega
      have g4 := List.length_filter_le P (spL ts 16)
      rw [spL_cN, g3, cN_four] at g4
      exact g4)
    rw [h4] at hc
    omega
  · have h1 := flat_le (fun ts => (spL ts 16).filter P) 6 (apL [] r) (fun ts hts => by
      have g4 := List.length_filter_le P (spL ts 16)
      rw [spL_cN] at g4
      exact Nat.le_trans g4 (cN_six (ap_four r [] ts hts)))
    have h2 : 2 ^ r.length ≤ 2 ^ 3 := Nat.pow_le_pow_right (by decide) (by omega)
    omega
theorem rbP_le {r : Nat → Int} (hr : ∀ i, i < 4 → 0 ≤ r i ∧ r i ≤ 17) : (rbP r).length ≤ 48 := by
  have hp := preL_in hr
  have hl : (preL r).length ≤ 4 := by
    have := (List.takeWhile_sublist (fun t : Int => decide (0 < t)) (l := [r 0, r 1, r 2, r 3])).length_le
    simpa [preL] using this
  have hperm := List.mergeSort_perm (prL (slP r) (preL r)) (fun a b => !ltR b a)
  have hpair : ((prL (slP r) (preL r)).mergeSort (fun a b => !ltR b a)).Pairwise fun a c => ltR c a = false := by
    have h := List.pairwise_mergeSort (le := fun a b => !ltR b a) (fun a b c h1 h2 => by
      simp only [Bool.not_eq_true'] at *
      exact ordR.ntrans h2 h1) (fun a b => by
      cases e : ltR b a
      · simp
      · simp [ordR.asymm e]) (prL (slP r) (preL r))
    exact h.imp fun h => by simpa using h
  obtain ⟨h1, _⟩ := prior_same (slP r) (fun t ht => by have := hp t ht; omega) hl hperm hpair
  have h2 : (rbP r).length = (cpA eqR ((prL (slP r) (preL r)).mergeSort (fun a b => !ltR b a))).length := h1.symm
  have h3 := cpA_len (eq := eqR) ((prL (slP r) (preL r)).mergeSort (fun a b => !ltR b a))
  have h4 := hperm.length_eq
  have h5 := prL_le (slP r) hl
  omega

end Go.Proofs.Ytmbmknpjmkgjlaa

/-
  Plain words: a row stands among the rows before the row that it slides to.
-/
namespace Go.Proofs.Ytmbmknpjmkgjlaa

/-- What a slide's state came of. -/
def flatS (s : SR) (n : Nat) : List Int := (List.range n).flatMap fun j => if s.mg j = true then [s.out j - 1, s.out j - 1] else [s.out j]
theorem flatS_succ (s : SR) (n : Nat) : flatS s (n + 1) = flatS s n ++ (if s.mg n = true then [s.out n - 1, s.out n - 1] else [s.out n]) := by
  simp [flatS, List.range_succ]
theorem flatS_congr {s t : SR} {n : Nat} (h : ∀ j, j < n → s.mg j = t.mg j ∧ s.out j = t.out j) : flatS s n = flatS t n := by
  induction n with
  | zero => rfl
  | succ n ih =>
    rw [flatS_succ, flatS_succ, ih (fun j hj => h j (by omega)), (h n (by omega)).1, (h n (by omega)).2]
theorem uns : ∀ (l : List Int) (s : SR), (∀ j, s.n ≤ j → s.mg j = false) → flatS (l.foldl SR.step s) (l.foldl SR.step s).n = flatS s s.n ++ l
  | [], s, _ => by simp
  | t :: l, s, hi => by
    rw [List.foldl_cons]
    by_cases hm : s.mer t = true
    · have e : s.step t = s.merged t := if_pos hm
      obtain ⟨m1, m2, _, m4⟩ := SR.mer_true hm
      rw [e]
      have h2 := uns l (s.merged t) (fun j hj => by
        have hj' : s.n ≤ j := hj
        have hne : j ≠ s.n - 1 := by omega
        simp only [SR.merged, hne, if_false]
        exact hi j hj')
      rw [h2]
      obtain ⟨n, hn⟩ : ∃ n, s.n = n + 1 := ⟨s.n - 1, by omega⟩
      have e1 : (s.merged t).n = n + 1 := hn
      have hk : s.n - 1 = n := by omega
      rw [hk] at m2 m4
      rw [e1, hn, flatS_succ, flatS_succ, m4, m2]
      have e2 : flatS (s.merged t) n = flatS s n := flatS_congr fun j hj => by
        have hne : j ≠ s.n - 1 := by omega
        simp [SR.merged, hne]
      rw [e2]
      simp [SR.merged, hk]
    · have e : s.step t = s.pushed t := if_neg hm
      rw [e]
      have h2 := uns l (s.pushed t) (fun j hj => hi j (by have : s.n + 1 ≤ j := hj; omega))
      rw [h2]
      have e1 : (s.pushed t).n = s.n + 1 := rfl
      rw [e1, flatS_succ]
      have e2 : flatS (s.pushed t) s.n = flatS s s.n := flatS_congr fun j hj => by
        have hne : j ≠ s.n := by omega
        simp [SR.pushed, hne]
      rw [e2]
      simp [SR.pushed, hi s.n (Nat.le_refl _)]
theorem flat_code (out : Nat → Int) (mg : Nat → Bool) : ∀ (n k : Nat), ∃ c, exM c ((List.range n).map fun j => out (k + j)) = (List.range n).flatMap fun j => if mg (k + j) = true then [out (k + j) - 1, out (k + j) - 1] else [out (k + j)]
  | 0, _ => ⟨0, rfl⟩
  | n + 1, k => by
    obtain ⟨c, hc⟩ := flat_code out mg n (k + 1)
    rw [List.range_succ_eq_map, List.map_cons, List.flatMap_cons, List.map_map, List.flatMap_map]
    have e1 : ((fun j => out (k + j)) ∘ Nat.succ) = fun j => out (k + 1 + j) := by
      funext j; show out (k + (j + 1)) = _; congr 1; omega
    have e2 : (fun j => if mg (k + Nat.succ j) = true then [out (k + Nat.succ j) - 1, out (k + Nat.succ j) - 1] else [out (k + Nat.succ j)]) = fun j => if mg (k + 1 + j) = true then [out (k + 1 + j) - 1, out (k + 1 + j) - 1] else [out (k + 1 + j)] := by
      funext j
      rw [show k + Nat.succ j = k + 1 + j by omega]
    rw [e1, e2, ← hc]
    by_cases hb : mg (k + 0) = true
    · exact ⟨2 * c + 1, by rw [if_pos hb, exM_two]⟩
    · exact ⟨2 * c, by rw [if_neg hb, exM_one]⟩
theorem back_code (r : Nat → Int) : ∃ c, exM c ((List.range (SR.slid r).n).map (SR.slid r).out) = tilesL r := by
  obtain ⟨c, hc⟩ := flat_code (SR.slid r).out (SR.slid r).mg (SR.slid r).n 0
  simp only [Nat.zero_add] at hc
  refine ⟨c, hc.trans ?_⟩
  have h := uns (tilesL r) SR.zero (fun _ _ => rfl)
  rw [SR.foldl_tiles] at h
  have h0 : flatS SR.zero SR.zero.n = [] := rfl
  rw [h0, List.nil_append] at h
  exact h
/-- A row is its tiles spread over the places that are not 0. -/
theorem spread_own (r : Nat → Int) : ∃ d, d < 16 ∧ nB d 4 = (tilesL r).length ∧ ∀ j, j < 4 → spB d (tilesL r) j = r j := by
  refine ⟨(if r 0 = 0 then 0 else 1) + (if r 1 = 0 then 0 else 2) + (if r 2 = 0 then 0 else 4) + (if r 3 = 0 then 0 else 8), ?_, ?_, ?_⟩
  · split <;> split <;> split <;> split <;> omega
  · by_cases z0 : r 0 = 0 <;> by_cases z1 : r 1 = 0 <;> by_cases z2 : r 2 = 0 <;> by_cases z3 : r 3 = 0 <;> simp [z0, z1, z2, z3, tilesL, nB]
  · intro j hj
    rcases (by omega : j = 0 ∨ j = 1 ∨ j = 2 ∨ j = 3) with rfl | rfl | rfl | rfl <;>
      (by_cases z0 : r 0 = 0 <;> by_cases z1 : r 1 = 0 <;> by_cases z2 : r 2 = 0 <;> by_cases z3 : r 3 = 0 <;> simp [z0, z1, z2, z3, tilesL, nB, spB])
theorem rbP_back {r : Nat → Int} (hr : ∀ i, i < 4 → 0 ≤ r i ∧ r i ≤ 17) : hasO eqR (rbP (SR.slid r).out) r = true := by
  unfold rbP
  rw [putO_has ordR, hasO_iff]
  obtain ⟨c, hc⟩ := back_code r
  obtain ⟨d, hd, hn, hsp⟩ := spread_own r
  have hnx := slid_in' hr
  have hpl : preL (SR.slid r).out = (List.range (SR.slid r).n).map (SR.slid r).out := by
    rw [preL_flush hnx (slid_flP hr), slid_tilesL hr]
  have hlen : ((List.range (SR.slid r).n).map (SR.slid r).out).length ≤ 4 := by
    have h1 := SR.slid_n_le hr
    have h2 := tilesL_len r
    simp; omega
  have hpos := tilesL_pos r hr
  refine ⟨spB d (tilesL r), ?_, eqR_true.2 hsp⟩
  simp only [rfL, List.mem_flatMap, List.mem_filter, List.mem_map, List.mem_range, spL, decide_eq_true_eq]
  refine ⟨tilesL r, ⟨⟨c % 2 ^ 4, Nat.mod_lt _ (by decide), ?_⟩, tilesL_len r, fun h0 => by have := hpos 0 h0; omega⟩, ⟨d, ⟨hd, by rw [hn]; exact beq_self_eq_true _⟩, rfl⟩, ?_⟩
  · rw [exM_eq, hpl, Nat.pow_zero, Nat.div_one, exM_mod _ _ _ hlen, hc]
  · show eqR (SR.slid (spB d (tilesL r))).out (SR.slid r).out = true
    rw [SR.slid_congr hsp]
    exact ordR.refl _

end Go.Proofs.Ytmbmknpjmkgjlaa

/-
  Contracts for the law FnRowsBack: the comparison of lists of rows; rows and their numbers; what is known of the rows before a row.
-/
namespace Go.Proofs.Ytmbmknpjmkgjlaa
open Go.RowKit

theorem rbL_P (r : Nat → Int) : rbL r = rbP r := rfl
theorem rbO_true {r : Nat → Int} (h : rowB (r 0) (r 1) (r 2) (r 3) = true) : rbO r = rbP r := if_pos h
theorem rbO_false {r : Nat → Int} (h : rowB (r 0) (r 1) (r 2) (r 3) = false) : rbO r = [] := if_neg (by rw [h]; exact Bool.false_ne_true)
theorem rbO_le {r : Nat → Int} : (rbO r).length ≤ 48 := by
  cases h : rowB (r 0) (r 1) (r 2) (r 3)
  · rw [rbO_false h]; simp
  · rw [rbO_true h]; exact rbP_le (rowB_in h)
theorem atR_mem {l : List (Nat → Int)} {i : Nat} (h : i < l.length) : atR l i ∈ l := by
  have : atR l i = l[i] := by simp [atR, h]
  rw [this]; exact List.getElem_mem h
/-- The first that is the row. -/
theorem first_eq {l : List (Nat → Int)} {r : Nat → Int} (h : hasO eqR l r = true) : ∃ J, J < l.length ∧ eqR (atR l J) r = true ∧ ∀ j, j < J → eqR (atR l j) r = false := by
  obtain ⟨a, ha, he⟩ := hasO_iff.1 h
  obtain ⟨i, hi, hai⟩ := List.getElem_of_mem ha
  have h0 : i < l.length ∧ eqR (atR l i) r = true := ⟨hi, by rw [show atR l i = a by simp [atR, hi, hai]]; exact he⟩
  clear ha he hai hi h
  induction i using Nat.strongRecOn with
  | ind i ih =>
    by_cases hx : ∃ j, j < i ∧ eqR (atR l j) r = true
    · obtain ⟨j, hj, he⟩ := hx
      exact ih j hj ⟨by omega, he⟩
    · exact ⟨i, h0.1, h0.2, fun j hj => Bool.eq_false_iff.2 fun e => hx ⟨j, hj, e⟩⟩
theorem num_at {a b c d : Int} (ha : 0 ≤ a ∧ a ≤ 17) (hb : 0 ≤ b ∧ b ≤ 17) (hc : 0 ≤ c ∧ c ≤ 17) (hd : 0 ≤ d ∧ d ≤ 17) (n : Int) (hn : n = 18 * (18 * (18 * a + b) + c) + d) :
    inB n 0 104975 = true ∧ n / 5832 = a ∧ n / 324 % 18 = b ∧ n / 18 % 18 = c ∧ n % 18 = d := by
  subst hn
  refine ⟨decide_eq_true (by omega), ?_, ?_, ?_, ?_⟩ <;> omega

set_option maxHeartbeats 4000000 in
theorem rRows_same (w : World) (A A' : Option Addr) (B B' c1 c2 : Nat) (l : List (Nat → Int)) (hn : l.length ≤ 65536) (hS : Sl w B A (l.length * 4) (rsC l)) (hS' : Sl w B' A' (l.length * 4) (rsC l)) :
    Calls Try.prog 33 #[.slice A l.length c1, .slice A' l.length c2] w fun e w' => e = .returned (.bool true) ∧ Below w.heap.size w w' := by
  rcases Nat.eq_zero_or_pos l.length with h0 | h0
  · rw [h0]
    clear hS hS'
    go_enter Try.func33, Try.ntmps33
    go_wp2
    refine wp_loop_rounds 1 ?_
    rw [rounds_succ]
    go_wp2
    go_ret
    exact ⟨rfl, (by repeat (first | (with_reducible exact Below.refl _ _) | (with_reducible assumption) | (with_reducible refine below_go ?_ (by with_reducible assumption)) | (with_reducible refine below_new ?_ _) | ((with_reducible refine below_put ?_ ?_ _); rotate_left; (dsimp only; omega)) | (with_reducible refine Below.drew ?_) | (with_reducible refine below_dn ?_ _)))⟩
  · obtain ⟨g, rfl, _, hH⟩ := hS (by omega)
    obtain ⟨g', rfl, _, hH'⟩ := hS' (by omega)
    have H1 := hide hH
    have H2 := hide hH'
    clear hH hH' hS hS'
    go_enter Try.func33, Try.ntmps33
    go_wp2
    go_loopw [5] (fun v wr => ∃ k : Nat, k ≤ l.length ∧ v = .int .i64 k ∧ Below w.heap.size w wr) (fun i _ => l.length - (intOf i).toNat)
    case atStart => exact ⟨0, by omega, rfl, (by repeat (first | (with_reducible exact Below.refl _ _) | (with_reducible assumption) | (with_reducible refine below_go ?_ (by with_reducible assumption)) | (with_reducible refine below_new ?_ _) | ((with_reducible refine below_put ?_ ?_ _); rotate_left; (dsimp only; omega)) | (with_reducible refine Below.drew ?_) | (with_reducible refine below_dn ?_ _)))⟩
    case round =>
      obtain ⟨k, hk, rfl, hB⟩ := hrel
      by_cases hlt : k < l.length
      · have i1 := H1.out.call hB
        have i2 := H2.out.call hB
        have zi1 := i1.2.2
        have zi2 := i2.2.2
        have a1 : (0 : Int) ≤ k := by omega
        have a2 : (k : Int) < l.length := by omega
        have hE := neq_R (atR l k) (atR l k)
        rw [ordR.refl (atR l k)] at hE
        generalize hN : l.length = N at *
        go_wp2_with fail
        refine wp_region_noPanic ?_
        refine wp_region_held_drew (S := (fun w' => RRo g k (atR l k) w' ∧ RRo g' k (atR l k) w')) (by kernel_rfl) ?hS01 (fun hHeld => ?_)
        case hS01 => exact ⟨rro_of (Has.drew i1) (by omega), rro_of i2 (by omega)⟩
        have hB' : Below w.heap.size w (World.drew _) := Below.drew hB
        have i1' := Has.drew i1
        have i2' := Has.drew i2
        (try clear ci1); (try clear fi1)
        (try clear ci2); (try clear fi2)
        generalize hWW : World.drew _ = wx at *; clear hWW
        clear hB; have hB := hB'; clear hB'; clear i1 zi1; have i1 := i1'; clear i1'; have zi1 := i1.2.2; clear i2 zi2; have i2 := i2'; clear i2'; have zi2 := i2.2.2
        refine take_d (i := 0) (some 17) (v := ?_) rfl rfl (by kernel_rfl) (by kernel_rfl) (by kernel_rfl) (fun _ _ _ h => h) (Or.inl ⟨by rfl, ?_⟩) (by assumption) ?_
        rotate_left; (intro w hSw; clear hSw; go_simp; try with_reducible rfl)
        all_goals (try simp only [Act.put, List.setIfInBounds_toArray, List.set_cons_zero, List.set_cons_succ])
        refine take_d (i := 1) (some 18) (v := ?_) rfl rfl (by kernel_rfl) (by kernel_rfl) (by kernel_rfl) (fun _ _ _ h => h) (Or.inl ⟨by rfl, ?_⟩) (by assumption) ?_
        rotate_left; (intro w hSw; clear hSw; go_simp; try with_reducible rfl)
        all_goals (try simp only [Act.put, List.setIfInBounds_toArray, List.set_cons_zero, List.set_cons_succ])
        refine take_d (i := 2) (some 19) (v := ?_) rfl rfl (by kernel_rfl) (by kernel_rfl) (by kernel_rfl) (fun _ _ _ h => h) (Or.inl ⟨by rfl, ?_⟩) (by assumption) ?_
        rotate_left; (intro w hSw; clear hSw; go_simp; try with_reducible rfl)
        all_goals (try simp only [Act.put, List.setIfInBounds_toArray, List.set_cons_zero, List.set_cons_succ])
        refine take_d (i := 3) (some 20) (oi := _) (v := _) rfl rfl (by kernel_rfl) (by kernel_rfl) (by kernel_rfl) (fun _ _ _ h => h) (yieldsIf_load_mid (by rfl) _ _ rfl _ _ rfl _ _ (fun w h => h.1.r) Try.underlying22 rfl (by kernel_rfl)) (by assumption) ?_
        all_goals (try simp only [Act.put, List.setIfInBounds_toArray, List.set_cons_zero, List.set_cons_succ])
        refine take_d (i := 4) (some 21) (v := ?_) rfl rfl (by kernel_rfl) (by kernel_rfl) (by kernel_rfl) (fun _ _ _ h => h) (Or.inl ⟨by rfl, ?_⟩) (by assumption) ?_
        rotate_left; (intro w hSw; clear hSw; go_simp; try with_reducible rfl)
        all_goals (try simp only [Act.put, List.setIfInBounds_toArray, List.set_cons_zero, List.set_cons_succ])
        refine take_d (i := 5) (some 22) (v := ?_) rfl rfl (by kernel_rfl) (by kernel_rfl) (by kernel_rfl) (fun _ _ _ h => h) (Or.inl ⟨by rfl, ?_⟩) (by assumption) ?_
        rotate_left; (intro w hSw; clear hSw; go_simp; try with_reducible rfl)
        all_goals (try simp only [Act.put, List.setIfInBounds_toArray, List.set_cons_zero, List.set_cons_succ])
        refine take_d (i := 6) (some 23) (v := ?_) rfl rfl (by kernel_rfl) (by kernel_rfl) (by kernel_rfl) (fun _ _ _ h => h) (Or.inl ⟨by rfl, ?_⟩) (by assumption) ?_
        rotate_left; (intro w hSw; clear hSw; go_simp; try with_reducible rfl)
        all_goals (try simp only [Act.put, List.setIfInBounds_toArray, List.set_cons_zero, List.set_cons_succ])
        refine take_d (i := 7) (some 24) (oi := _) (v := _) rfl rfl (by kernel_rfl) (by kernel_rfl) (by kernel_rfl) (fun _ _ _ h => h) (yieldsIf_load_mid (by rfl) _ _ rfl _ _ rfl _ _ (fun w h => h.2.r) Try.underlying22 rfl (by kernel_rfl)) (by assumption) ?_
        all_goals (try simp only [Act.put, List.setIfInBounds_toArray, List.set_cons_zero, List.set_cons_succ])
        refine take_d (i := 8) (some 25) (v := ?_) rfl rfl (by kernel_rfl) (by kernel_rfl) (by kernel_rfl) (fun _ _ _ h => h) (Or.inl ⟨by rfl, ?_⟩) (by assumption) ?_
        rotate_left; (intro w hSw; clear hSw; go_simp; try with_reducible rfl)
        all_goals (try simp only [Act.put, List.setIfInBounds_toArray, List.set_cons_zero, List.set_cons_succ])
        refine wpAnyH_done (by kernel_rfl) ?_ _
        (try refine NoPanic.normal ?_)
        go_wp2
        go_roundw
        case rel => exact ⟨k + 1, by omega, by go_num, (by repeat (first | (with_reducible exact Below.refl _ _) | (with_reducible assumption) | (with_reducible refine below_go ?_ (by with_reducible assumption)) | (with_reducible refine below_new ?_ _) | ((with_reducible refine below_put ?_ ?_ _); rotate_left; (dsimp only; omega)) | (with_reducible refine Below.drew ?_) | (with_reducible refine below_dn ?_ _)))⟩
        case measure => (simp [intOf]; omega)
      · obtain rfl : k = l.length := by omega
        go_wp2
        go_ret
        exact ⟨rfl, (by repeat (first | (with_reducible exact Below.refl _ _) | (with_reducible assumption) | (with_reducible refine below_go ?_ (by with_reducible assumption)) | (with_reducible refine below_new ?_ _) | ((with_reducible refine below_put ?_ ?_ _); rotate_left; (dsimp only; omega)) | (with_reducible refine Below.drew ?_) | (with_reducible refine below_dn ?_ _)))⟩

end Go.Proofs.Ytmbmknpjmkgjlaa
