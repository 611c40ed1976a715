/-
  Contracts: the draws for the law of forms.
-/
import Derived.Test.YtegdnfmhhigjfaaFmD
import Derived.Test.YtegdnfmhhigjfaaQBase
import Derived.Deep.OwnRows
import Derived.Deep.DeepCutAuto
import Derived.Test.YtegdnfmhhigjfaaForm3
import Derived.Test.YtegdnfmhhigjfaaForm1
import Derived.Test.YtegdnfmhhigjfaaQTiles
import Derived.Test.YtegdnfmhhigjfaaQEqlB
namespace Go.Proofs.Ytegdnfmhhigjfaa
open Go.RowKit

set_option maxHeartbeats 4000000 in
set_option maxRecDepth 100000 in
theorem drawFormBoard_any (A : Option Addr) (n cp : Nat) (x : Nat → Nat) (hn : n ≤ 65536) (w : World) (hA : ArgB w A n x) :
    Calls Try.prog 7 #[.slice A n cp] w fun e w' => ∃ (b : Nat → Int) (k : Int), e = .returned (.tuple #[.agg #[.int .i64 (b 0), .int .i64 (b 1), .int .i64 (b 2), .int .i64 (b 3), .int .i64 (b 4), .int .i64 (b 5), .int .i64 (b 6), .int .i64 (b 7), .int .i64 (b 8), .int .i64 (b 9), .int .i64 (b 10), .int .i64 (b 11), .int .i64 (b 12), .int .i64 (b 13), .int .i64 (b 14), .int .i64 (b 15)], .int .i64 k]) ∧ BI b ∧ (-1 ≤ k ∧ k ≤ 4611686018427387904) ∧ Below w.heap.size w w' := by
  have HR := hide (fun w1 (hb : Below w.heap.size w w1) T => rd_new (hA.call hb) (cp := cp) T 0)
  clear hA
  go_enter Try.func7, Try.ntmps7
  go_upto_region 1 with (fail)
  generalize hW : World.alloc w _ = w1
  have hb : Below w.heap.size w w1 := by (rw [← hW]; exact below_new (Below.refl _ _) _)
  have i2 : Has w1 w.heap.size 16 (fun _ => .int .i64 0) := by
    rw [← hW]
    exact (Has.new' (n := 16) rfl).congr fun o ho => lit16' (fun _ => 0) o ho
  have hz := i2.2.2
  have HX := hide (HR.out w1 hb)
  clear hW HR
  go_upto_region 2 with (fail)
  generalize hW : World.alloc w1 _ = w3
  have hR0 := by have h := HX.out 80; rw [hW] at h; exact h
  have hb3 : Below w1.heap.size w1 w3 := by (rw [← hW]; exact below_new (Below.refl _ _) _)
  have i2x := i2.call hb3
  have hB := below_go hb hb3
  clear hW HX i2
  go_wp2_with (first | (go_at_call 60; (with_reducible refine (formed3_rd hn (by omega) hR0).mono ?_); rintro e w2 ⟨b, rfl, hb, hR1, hG2⟩; have i2y := i2x.grown hG2 (fun he => by have := Option.some.inj he; omega); clear i2x; have i2x := i2y; clear i2y; have hB2 : Below w.heap.size w w2 := below_gr hB hG2 (Nat.le_of_lt hz); clear hB hG2 hR0; have hB := hB2; clear hB2) | (go_at_call 61; (with_reducible refine (form3_rd hn (by omega) hR1).mono ?_); rintro e w2 ⟨k, rfl, hk, hR2, hG2⟩; have i2y := i2x.grown hG2 (fun he => by have := Option.some.inj he; omega); clear i2x; have i2x := i2y; clear i2y; have hB2 : Below w.heap.size w w2 := below_gr hB hG2 (Nat.le_of_lt hz); clear hB hG2 hR1; have hB := hB2; clear hB2) | (refine store_BoardF rfl _ _ rfl _ b rfl rfl i2x ?_; intro w9 ho9 hn9))
  exact bodyPost_ret (results_cell_t rfl rfl (loadVar_Board hn9 (by omega))) rfl ⟨b, k, rfl, hb, hk, below_only hB ho9 (Nat.le_refl _)⟩

set_option maxHeartbeats 4000000 in
set_option maxRecDepth 100000 in
theorem drawFormBehind_any (A : Option Addr) (n cp : Nat) (x : Nat → Nat) (hn : n ≤ 65536) (w : World) (hA : ArgB w A n x) :
    Calls Try.prog 10 #[.slice A n cp] w fun e w' => ∃ (k : Int) (m : Int), e = .returned (.tuple #[.int .i64 k, .int .i64 m]) ∧ (-1 ≤ k ∧ k ≤ 4611686018427387904) ∧ (-1 ≤ m ∧ m ≤ 4611686018427387904) ∧ Below w.heap.size w w' := by
  have HR := hide (fun w1 (hb : Below w.heap.size w w1) T => rd_new (hA.call hb) (cp := cp) T 0)
  clear hA
  go_enter Try.func10, Try.ntmps10
  have hb : Below w.heap.size w w := Below.refl _ _
  have HX := hide (HR.out w hb)
  have hz : w.heap.size ≤ w.heap.size := Nat.le_refl _
  clear HR
  go_upto_region 2 with (fail)
  generalize hW : World.alloc w _ = w3
  have hR0 := by have h := HX.out 80; rw [hW] at h; exact h
  have hb3 : Below w.heap.size w w3 := by (rw [← hW]; exact below_new (Below.refl _ _) _)
  have hB := below_go hb hb3
  clear hW HX
  go_wp2_with (first | (go_at_call 61; (with_reducible refine (form3_rd hn (by omega) hR0).mono ?_); rintro e w2 ⟨k, rfl, hk, hR1, hG2⟩; have hB2 : Below w.heap.size w w2 := below_gr hB hG2 hz; clear hB hG2 hR0; have hB := hB2; clear hB2) | (go_at_call 61; (with_reducible refine (form3_rd hn (by omega) hR1).mono ?_); rintro e w2 ⟨m, rfl, hm, hR2, hG2⟩; have hB2 : Below w.heap.size w w2 := below_gr hB hG2 hz; clear hB hG2 hR1; have hB := hB2; clear hB2))
  go_ret2
  exact ⟨k, m, rfl, hk, hm, hB⟩

set_option maxHeartbeats 4000000 in
set_option maxRecDepth 100000 in
theorem drawFormSide_any (A : Option Addr) (n cp : Nat) (x : Nat → Nat) (hn : n ≤ 65536) (w : World) (hA : ArgB w A n x) :
    Calls Try.prog 16 #[.slice A n cp] w fun e w' => ∃ (k : Int) (d : Int), e = .returned (.tuple #[.int .i64 k, .int .i64 d]) ∧ (-1 ≤ k ∧ k ≤ 4611686018427387904) ∧ (-1 ≤ d ∧ d ≤ 4611686018427387904) ∧ Below w.heap.size w w' := by
  have HR := hide (fun w1 (hb : Below w.heap.size w w1) T => rd_new (hA.call hb) (cp := cp) T 0)
  clear hA
  go_enter Try.func16, Try.ntmps16
  have hb : Below w.heap.size w w := Below.refl _ _
  have HX := hide (HR.out w hb)
  have hz : w.heap.size ≤ w.heap.size := Nat.le_refl _
  clear HR
  go_upto_region 2 with (fail)
  generalize hW : World.alloc w _ = w3
  have hR0 := by have h := HX.out 80; rw [hW] at h; exact h
  have hb3 : Below w.heap.size w w3 := by (rw [← hW]; exact below_new (Below.refl _ _) _)
  have hB := below_go hb hb3
  clear hW HX
  go_wp2_with (first | (go_at_call 61; (with_reducible refine (form3_rd hn (by omega) hR0).mono ?_); rintro e w2 ⟨k, rfl, hk, hR1, hG2⟩; have hB2 : Below w.heap.size w w2 := below_gr hB hG2 hz; clear hB hG2 hR0; have hB := hB2; clear hB2) | (go_at_call 72; (with_reducible refine (side_rd hn (by omega) hR1).mono ?_); rintro e w2 ⟨d, rfl, hd, hR2, hG2⟩; have hB2 : Below w.heap.size w w2 := below_gr hB hG2 hz; clear hB hG2 hR1; have hB := hB2; clear hB2))
  go_ret2
  exact ⟨k, d, rfl, hk, hd, hB⟩

end Go.Proofs.Ytegdnfmhhigjfaa

namespace Go.Proofs.Ytegdnfmhhigjfaa
open Go.ChangeShapes Go.WideShapes Go.ChangeAt Go.RowKit

theorem info_u8 : (Try.prog.info? 5).map (fun i => (i.zero, i.size, i.bytes)) = some (some (.int .u8 0), 1, 1) := by kernel_rfl
theorem one_cellB {wr : World} {T : TypeId} {x : Value} : ∀ (j : Nat) (u : Value), ([x] : List Value)[j]? = some u → (wr.alloc (.cells #[x] T)).cell? ((⟨wr.heap.size, 0, none⟩ : Addr).add j) = some u := by
  intro j u hj
  have hn := Has.new' (w := wr) (cs := #[x]) (T := T) (n := 1) rfl
  rw [Addr.add_lit]
  rcases (by omega : j = 0 ∨ 1 ≤ j) with rfl | h
  · simp at hj; subst hj; exact hn.1 0 (by omega)
  · rw [List.getElem?_eq_none (by simpa using h)] at hj; cases hj

set_option maxRecDepth 100000 in
set_option maxHeartbeats 4000000 in
/-- A slice of N bytes. -/
def CutV (w : World) (v : Value) (N : Nat) : Prop := ∃ A' cp' x', v = .slice A' N cp' ∧ ArgB w A' N x'
def bys (x : Nat → Nat) (k m : Nat) : List Value := (List.range m).map fun j => .int .u8 (x (k + j) : Int)
theorem bys_news {w : World} {b off k m n : Nat} {x : Nat → Nat} (hc : ∀ i, i < n → w.cell? ⟨b, off + i, none⟩ = some (.int .u8 (x i : Int)) ∧ x i ≤ 255) (hk : k + m ≤ n) : ∀ j u, (bys x k m)[j]? = some u → w.cell? ((⟨b, off + k, none⟩ : Addr).add j) = some u := by
  intro j u hj
  rw [Addr.add_lit]
  unfold bys at hj
  by_cases hjm : j < m
  · simp [hjm] at hj
    rw [Nat.add_assoc, (hc (k + j) (by omega)).1, hj]
  · simp [hjm] at hj
theorem bys_one (x : Nat → Nat) (k m : Nat) : ∀ u, u ∈ bys x k m → u.oneCell' = true := by
  intro u hu
  unfold bys at hu
  rw [List.mem_map] at hu
  obtain ⟨j, _, rfl⟩ := hu
  rfl
/-- The bytes of a suffix, and one more. -/
theorem bys_arg {w : World} {base : Nat} {v : Value} {x : Nat → Nat} {k m q N : Nat} (hN : N = m + 1) (h : w.ownsRow base 5 1 v N (bys x k m ++ [.int .u8 (q : Int)])) (hx : ∀ i, i < m → x (k + i) ≤ 255) (hq : q ≤ 255) : ∃ A' cp' x', v = .slice A' N cp' ∧ ArgB w A' N x' := by
  obtain ⟨A, cap, rfl, _, hS⟩ := own_sl h
  refine ⟨A, cap, fun i => if i < m then x (k + i) else q, rfl, fun h0 => ?_⟩
  obtain ⟨g, rfl, _, hH⟩ := hS (by omega)
  refine ⟨g, 0, rfl, hH.2.2, fun i hi => ⟨?_, ?_⟩⟩
  · rw [Nat.zero_add, hH.1 i (by omega)]
    dsimp only
    by_cases h1 : i < m
    · rw [if_pos h1, List.getD_eq_getElem?_getD, List.getElem?_append_left (by simpa [bys] using h1)]
      simp [bys, List.getElem?_map, List.getElem?_range h1]
    · obtain rfl : i = m := by omega
      rw [if_neg h1]
      simp [bys, List.getD]
  · dsimp only
    split
    · exact hx i (by assumption)
    · exact hq

section
variable {H : Type} {enc : TypeId × Value → H}
set_option maxRecDepth 100000 in
theorem code_arg {W : World} {r : Reach} {b0 : Nat} {t e : TypeId} {v : Value} {d : DataW H} {ps : List MemPlace} (ht : Try.prog.underlying t = some (.slice e)) (he : Try.prog.underlying e = some (.int .u8)) (hc : Try.prog.cellsOf e = 1)
    (hval : Value.okWide Try.prog W r b0 t v) (hd : DataW.Trod enc Try.prog W 0 (fun _ => true) true t v d ps) :
    ∃ A n cap x, v = .slice A n cap ∧ Hid (n ≤ cap ∧ (A = none → cap = 0)) ∧ Hid (ArgB W A n x) := by
  obtain ⟨a0, len, cap, rfl⟩ := okWide_slice ht hval
  obtain ⟨fuel, hf⟩ := hd
  rcases open_ints ht he hc hf with ⟨hcs, hx⟩ | ⟨a, len', cap', zs, hcs, _, hl, hm, hz, hx, hcell, hwz⟩
  · simp [Value.cells] at hcs
    obtain ⟨rfl, rfl, rfl⟩ := hcs
    exact ⟨none, 0, 0, fun _ => 0, rfl, ⟨Nat.le_refl _, fun _ => rfl⟩, fun h => absurd h (Nat.lt_irrefl 0)⟩
  · simp [Value.cells] at hcs
    obtain ⟨rfl, rfl, rfl⟩ := hcs
    simp only [Prod.mk.injEq] at hx
    obtain ⟨rfl, rfl⟩ := hx
    simp only [if_true] at hz
    refine ⟨some a, len, cap, fun i => (zs.getD i 0).toNat, rfl, ⟨hl, fun h => by cases h⟩, fun h0 => ?_⟩
    obtain ⟨b, off, spot⟩ := a
    have hlz : len ≤ zs.length := by omega
    have hspot : spot = none := by simpa [Addr.add] using World.cell?_spot (hcell 0 (by omega))
    subst hspot
    refine ⟨b, off, rfl, ?_, fun i hi => ?_⟩
    · have h1 := hcell 0 (by omega)
      exact World.block_lt_of_cell? W _ h1
    · have h1 := hcell i (by omega)
      rw [Addr.add_lit] at h1
      have hmem : zs.getD i 0 ∈ zs := by
        have hi2 : i < zs.length := by omega
        rw [List.getD_eq_getElem?_getD, List.getElem?_eq_getElem hi2]
        exact List.getElem_mem hi2
      have h2 := hwz _ hmem
      have h3 := bounds_u8 h2
      refine ⟨?_, by show (zs.getD i 0).toNat ≤ 255; omega⟩
      rw [h1]
      show _ = some (Value.int .u8 (((zs.getD i 0).toNat : Nat) : Int))
      rw [Int.toNat_of_nonneg h3.1]
end

set_option maxHeartbeats 4000000 in
set_option maxRecDepth 100000 in
theorem vCut_some (b off : Nat) (n cp : Nat) (x : Nat → Nat) (N k : Nat) (hk : k ≤ n) (hkN : (N ≤ n ∧ k = N) ∨ (n < N ∧ k = n)) (hk2 : k ≤ 2) (hcp : n ≤ cp) (hck : ¬ cp = k) (hn : n ≤ 65536) (w : World) (hb : b < w.heap.size) (hc : ∀ i, i < n → w.cell? ⟨b, off + i, none⟩ = some (.int .u8 (x i : Int)) ∧ x i ≤ 255) :
    Calls Try.prog 11 #[.slice (some ⟨b, off, none⟩) n cp, .int .i64 N] w fun e w' => ∃ v, e = .returned v ∧ CutV w' v (n - k + 1) ∧ Below w.heap.size w w' := by
  obtain ⟨i0, hi0, hz0, hz1, hz2⟩ := info_parts info_u8
  have OM : Hid ((w.alloc (.cells #[] 5)).ownsRow w.heap.size 5 1 (.slice (some ⟨w.heap.size, 0, none⟩) 0 0) 0 []) := hide (World.ownsRow_made w #[] 0 (Nat.le_refl _) (Nat.zero_le _) rfl)
  have HC := hide hc
  have u8k : IntKind.u8.wrap (k : Int) = k := by rcases (by omega : k = 0 ∨ k = 1 ∨ k = 2) with rfl | rfl | rfl <;> rfl
  have a0 : (0 : Int) ≤ k := by omega
  have a1 : (k : Int) ≤ n := by omega
  have a2 : (n : Int) ≤ cp := by omega
  clear hc
  go_enter Try.func11, Try.ntmps11
  have HC' : Hid (∀ i, i < n → (w.alloc (.cells #[] 5)).cell? ⟨b, off + i, none⟩ = some (.int .u8 (x i : Int)) ∧ x i ≤ 255) := hide (fun i hi => ⟨((below_new (Below.refl _ _) _).cell (p := ⟨b, off + i, none⟩) hb).trans (HC.out i hi).1, (HC.out i hi).2⟩)
  rcases hkN with ⟨h1, rfl⟩ | ⟨h1, rfl⟩
  · have h2 : ¬ (n : Int) < k := by omega
    go_wp2_with (first | (at_builtin; refine wpList_append_own _ rfl _ _ 22 rfl w.heap.size 5 i0 (.int .u8 0) 1 1 Try.underlying22 hi0 hz0 hz1 hz2 rfl (by decide) _ _ _ rfl (own1.alloc _) ⟨w1.heap.size, 0, none⟩ 1 1 [.int .u8 (k : Int)] rfl rfl one_cellB (fun u hu => by simp at hu; subst hu; rfl) (by unfold maxLen; omega) (by omega) (by have := hB1.size; simp; omega) ?_; intro v2 w2 own2 hg2 _; have hB2 := (below_new hB1 (.cells #[.int .u8 (k : Int)] 5)).grown hg2 (by have := hB1.size; simp; omega) (fun q hq => (own1.lt q hq).1); clear own1 hg2 hB1) | (at_builtin; refine wpList_append_own _ rfl _ _ 22 rfl w.heap.size 5 i0 (.int .u8 0) 1 1 Try.underlying22 hi0 hz0 hz1 hz2 rfl (by decide) _ _ _ rfl OM.out ⟨b, off + k, none⟩ (n - k) _ (bys x k (n - k)) rfl (by simp [bys]) (bys_news HC'.out (by omega)) (bys_one x k (n - k)) (by unfold maxLen; omega) (by omega) (by simp) ?_; intro v1 w1 own1 hg1 _; have hB1 : Below w.heap.size w w1 := (below_new (Below.refl _ _) (.cells #[] 5)).grown hg1 (by simp) (fun q hq => (OM.out.lt q hq).1); clear hg1))
    go_ret
    rw [List.nil_append] at own2
    obtain ⟨A', cp', x', rfl, hA'⟩ := bys_arg (m := n - k) (by omega) own2 (fun i hi => (HC.out _ (by omega)).2) (by omega)
    exact ⟨_, rfl, ⟨A', cp', x', by simp, by simpa using hA'⟩, hB2⟩
  · have h2 : (k : Int) < N := by omega
    go_wp2_with (first | (at_builtin; refine wpList_append_own _ rfl _ _ 22 rfl w.heap.size 5 i0 (.int .u8 0) 1 1 Try.underlying22 hi0 hz0 hz1 hz2 rfl (by decide) _ _ _ rfl (own1.alloc _) ⟨w1.heap.size, 0, none⟩ 1 1 [.int .u8 (k : Int)] rfl rfl one_cellB (fun u hu => by simp at hu; subst hu; rfl) (by unfold maxLen; omega) (by omega) (by have := hB1.size; simp; omega) ?_; intro v2 w2 own2 hg2 _; have hB2 := (below_new hB1 (.cells #[.int .u8 (k : Int)] 5)).grown hg2 (by have := hB1.size; simp; omega) (fun q hq => (own1.lt q hq).1); clear own1 hg2 hB1) | (at_builtin; refine wpList_append_own _ rfl _ _ 22 rfl w.heap.size 5 i0 (.int .u8 0) 1 1 Try.underlying22 hi0 hz0 hz1 hz2 rfl (by decide) _ _ _ rfl OM.out ⟨b, off + k, none⟩ 0 _ (bys x k 0) rfl (by simp [bys]) (bys_news HC'.out (by omega)) (bys_one x k 0) (by unfold maxLen; omega) (by omega) (by simp) ?_; intro v1 w1 own1 hg1 _; have hB1 : Below w.heap.size w w1 := (below_new (Below.refl _ _) (.cells #[] 5)).grown hg1 (by simp) (fun q hq => (OM.out.lt q hq).1); clear hg1))
    go_ret
    rw [List.nil_append] at own2
    have own3 : w2.ownsRow w.heap.size 5 1 v2 (0 + 1) (bys x k 0 ++ [.int .u8 (k : Int)]) := by simpa [bys] using own2
    obtain ⟨A', cp', x', rfl, hA'⟩ := bys_arg (x := x) (k := k) (q := k) (m := 0) rfl own3 (fun i hi => (HC.out _ (by omega)).2) (by omega)
    exact ⟨_, rfl, ⟨A', cp', x', by simp, by simpa using hA'⟩, hB2⟩

set_option maxHeartbeats 4000000 in
set_option maxRecDepth 100000 in
theorem vCut_end (a : Addr) (k : Nat) (x : Nat → Nat) (N : Nat) (hkN : k = N ∨ k < N) (hk2 : k ≤ 2) (w : World) :
    Calls Try.prog 11 #[.slice (some a) k k, .int .i64 N] w fun e w' => ∃ v, e = .returned v ∧ CutV w' v (0 + 1) ∧ Below w.heap.size w w' := by
  obtain ⟨i0, hi0, hz0, hz1, hz2⟩ := info_parts info_u8
  have OM : Hid ((w.alloc (.cells #[] 5)).ownsRow w.heap.size 5 1 (.slice (some ⟨w.heap.size, 0, none⟩) 0 0) 0 []) := hide (World.ownsRow_made w #[] 0 (Nat.le_refl _) (Nat.zero_le _) rfl)
  have u8k : IntKind.u8.wrap (k : Int) = k := by rcases (by omega : k = 0 ∨ k = 1 ∨ k = 2) with rfl | rfl | rfl <;> rfl
  have a0 : (0 : Int) ≤ k := by omega
  go_enter Try.func11, Try.ntmps11
  rcases hkN with rfl | h1
  · have h2 : ¬ (k : Int) < k := by omega
    go_wp2_with (first | (at_builtin; refine wpList_append_own _ rfl _ _ 22 rfl w.heap.size 5 i0 (.int .u8 0) 1 1 Try.underlying22 hi0 hz0 hz1 hz2 rfl (by decide) _ _ _ rfl (own1.alloc _) ⟨w1.heap.size, 0, none⟩ 1 1 [.int .u8 (k : Int)] rfl rfl one_cellB (fun u hu => by simp at hu; subst hu; rfl) (by unfold maxLen; omega) (by omega) (by have := hB1.size; simp; omega) ?_; intro v2 w2 own2 hg2 _; have hB2 := (below_new hB1 (.cells #[.int .u8 (k : Int)] 5)).grown hg2 (by have := hB1.size; simp; omega) (fun q hq => (own1.lt q hq).1); clear own1 hg2 hB1) | (at_builtin; refine wpList_append_own _ rfl _ _ 22 rfl w.heap.size 5 i0 (.int .u8 0) 1 1 Try.underlying22 hi0 hz0 hz1 hz2 rfl (by decide) _ _ _ rfl OM.out a 0 _ (bys x k 0) rfl (by simp [bys]) (fun j u hj => by simp [bys] at hj) (bys_one x k 0) (by unfold maxLen; omega) (by omega) (by simp) ?_; intro v1 w1 own1 hg1 _; have hB1 : Below w.heap.size w w1 := (below_new (Below.refl _ _) (.cells #[] 5)).grown hg1 (by simp) (fun q hq => (OM.out.lt q hq).1); clear hg1))
    go_ret
    rw [List.nil_append] at own2
    have own3 : w2.ownsRow w.heap.size 5 1 v2 (0 + 1) (bys x k 0 ++ [.int .u8 (k : Int)]) := by simpa [bys] using own2
    obtain ⟨A', cp', x', rfl, hA'⟩ := bys_arg (x := x) (k := k) (q := k) (m := 0) rfl own3 (fun i hi => absurd hi (Nat.not_lt_zero _)) (by omega)
    exact ⟨_, rfl, ⟨A', cp', x', by simp, by simpa using hA'⟩, hB2⟩
  · have h2 : (k : Int) < N := by omega
    go_wp2_with (first | (at_builtin; refine wpList_append_own _ rfl _ _ 22 rfl w.heap.size 5 i0 (.int .u8 0) 1 1 Try.underlying22 hi0 hz0 hz1 hz2 rfl (by decide) _ _ _ rfl (own1.alloc _) ⟨w1.heap.size, 0, none⟩ 1 1 [.int .u8 (k : Int)] rfl rfl one_cellB (fun u hu => by simp at hu; subst hu; rfl) (by unfold maxLen; omega) (by omega) (by have := hB1.size; simp; omega) ?_; intro v2 w2 own2 hg2 _; have hB2 := (below_new hB1 (.cells #[.int .u8 (k : Int)] 5)).grown hg2 (by have := hB1.size; simp; omega) (fun q hq => (own1.lt q hq).1); clear own1 hg2 hB1) | (at_builtin; refine wpList_append_own _ rfl _ _ 22 rfl w.heap.size 5 i0 (.int .u8 0) 1 1 Try.underlying22 hi0 hz0 hz1 hz2 rfl (by decide) _ _ _ rfl OM.out a 0 _ (bys x k 0) rfl (by simp [bys]) (fun j u hj => by simp [bys] at hj) (bys_one x k 0) (by unfold maxLen; omega) (by omega) (by simp) ?_; intro v1 w1 own1 hg1 _; have hB1 : Below w.heap.size w w1 := (below_new (Below.refl _ _) (.cells #[] 5)).grown hg1 (by simp) (fun q hq => (OM.out.lt q hq).1); clear hg1))
    go_ret
    rw [List.nil_append] at own2
    have own3 : w2.ownsRow w.heap.size 5 1 v2 (0 + 1) (bys x k 0 ++ [.int .u8 (k : Int)]) := by simpa [bys] using own2
    obtain ⟨A', cp', x', rfl, hA'⟩ := bys_arg (x := x) (k := k) (q := k) (m := 0) rfl own3 (fun i hi => absurd hi (Nat.not_lt_zero _)) (by omega)
    exact ⟨_, rfl, ⟨A', cp', x', by simp, by simpa using hA'⟩, hB2⟩

set_option maxHeartbeats 4000000 in
set_option maxRecDepth 100000 in
theorem vCut_nil (x : Nat → Nat) (N : Nat) (hN : 1 ≤ N) (w : World) :
    Calls Try.prog 11 #[.slice none 0 0, .int .i64 N] w fun e w' => ∃ v, e = .returned v ∧ CutV w' v (0 + 1) ∧ Below w.heap.size w w' := by
  obtain ⟨i0, hi0, hz0, hz1, hz2⟩ := info_parts info_u8
  have OM : Hid ((w.alloc (.cells #[] 5)).ownsRow w.heap.size 5 1 (.slice (some ⟨w.heap.size, 0, none⟩) 0 0) 0 []) := hide (World.ownsRow_made w #[] 0 (Nat.le_refl _) (Nat.zero_le _) rfl)
  have h2 : (0 : Int) < N := by omega
  go_enter Try.func11, Try.ntmps11
  go_wp2_with (at_builtin; refine wpList_append_own _ rfl _ _ 22 rfl w.heap.size 5 i0 (.int .u8 0) 1 1 Try.underlying22 hi0 hz0 hz1 hz2 rfl (by decide) _ _ _ rfl (OM.out.alloc _) ⟨w.heap.size + 1, 0, none⟩ 1 1 [.int .u8 0] rfl rfl (by have h := one_cellB (wr := w.alloc (.cells #[] 5)) (T := 5) (x := .int .u8 0); rw [World.size_alloc] at h; exact h) (fun u hu => by simp at hu; subst hu; rfl) (by unfold maxLen; omega) (by omega) (by simp; omega) ?_; intro v2 w2 own2 hg2 _; have hB2 : Below w.heap.size w w2 := (below_new (below_new (Below.refl _ _) (.cells #[] 5)) (.cells #[.int .u8 0] 5)).grown hg2 (by simp; omega) (fun q hq => (OM.out.lt q hq).1); clear hg2)
  go_ret
  have own3 : w2.ownsRow w.heap.size 5 1 v2 (0 + 1) (bys x 0 0 ++ [.int .u8 ((0 : Nat) : Int)]) := by simpa [bys] using own2
  obtain ⟨A', cp', x', rfl, hA'⟩ := bys_arg (x := x) (k := 0) (q := 0) (m := 0) rfl own3 (fun i hi => absurd hi (Nat.not_lt_zero _)) (by omega)
  exact ⟨_, rfl, ⟨A', cp', x', by simp, by simpa using hA'⟩, hB2⟩

set_option maxHeartbeats 4000000 in
set_option maxRecDepth 100000 in
theorem vCut_more (a : Addr) (cp : Nat) (x : Nat → Nat) (N : Nat) (hN : 1 ≤ N) (h0 : 0 < cp) (w : World) :
    Calls Try.prog 11 #[.slice (some a) 0 cp, .int .i64 N] w fun e w' => ∃ v, e = .returned v ∧ CutV w' v (0 + 1) ∧ Below w.heap.size w w' := by
  obtain ⟨i0, hi0, hz0, hz1, hz2⟩ := info_parts info_u8
  have OM : Hid ((w.alloc (.cells #[] 5)).ownsRow w.heap.size 5 1 (.slice (some ⟨w.heap.size, 0, none⟩) 0 0) 0 []) := hide (World.ownsRow_made w #[] 0 (Nat.le_refl _) (Nat.zero_le _) rfl)
  have h2 : (0 : Int) < N := by omega
  have h3 : ¬ cp = 0 := by omega
  have h4 : (0 : Int) ≤ cp := by omega
  go_enter Try.func11, Try.ntmps11
  go_wp2_with (at_builtin; refine wpList_append_own _ rfl _ _ 22 rfl w.heap.size 5 i0 (.int .u8 0) 1 1 Try.underlying22 hi0 hz0 hz1 hz2 rfl (by decide) _ _ _ rfl (OM.out.alloc _) ⟨w.heap.size + 1, 0, none⟩ 1 1 [.int .u8 0] rfl rfl (by have h := one_cellB (wr := w.alloc (.cells #[] 5)) (T := 5) (x := .int .u8 0); rw [World.size_alloc] at h; exact h) (fun u hu => by simp at hu; subst hu; rfl) (by unfold maxLen; omega) (by omega) (by simp; omega) ?_; intro v2 w2 own2 hg2 _; have hB2 : Below w.heap.size w w2 := (below_new (below_new (Below.refl _ _) (.cells #[] 5)) (.cells #[.int .u8 0] 5)).grown hg2 (by simp; omega) (fun q hq => (OM.out.lt q hq).1); clear hg2)
  go_ret
  have own3 : w2.ownsRow w.heap.size 5 1 v2 (0 + 1) (bys x 0 0 ++ [.int .u8 ((0 : Nat) : Int)]) := by simpa [bys] using own2
  obtain ⟨A', cp', x', rfl, hA'⟩ := bys_arg (x := x) (k := 0) (q := 0) (m := 0) rfl own3 (fun i hi => absurd hi (Nat.not_lt_zero _)) (by omega)
  exact ⟨_, rfl, ⟨A', cp', x', by simp, by simpa using hA'⟩, hB2⟩

theorem vCut_any (A : Option Addr) (n cp : Nat) (x : Nat → Nat) (N : Nat) (hN : 1 ≤ N ∧ N ≤ 2) (hn : n ≤ 65536) (hcp : n ≤ cp ∧ (A = none → cp = 0)) (w : World) (hA : ArgB w A n x) :
    Calls Try.prog 11 #[.slice A n cp, .int .i64 (N : Int)] w fun e w' => ∃ A' n' cp' x', e = .returned (.slice A' n' cp') ∧ n' ≤ 65536 ∧ ArgB w' A' n' x' ∧ Below w.heap.size w w' := by
  obtain ⟨k, hk⟩ : ∃ k : Nat, (N ≤ n ∧ k = N) ∨ (n < N ∧ k = n) := by
    by_cases h : N ≤ n
    · exact ⟨N, .inl ⟨h, rfl⟩⟩
    · exact ⟨n, .inr ⟨by omega, rfl⟩⟩
  have out : ∀ M, M ≤ 65536 → Calls Try.prog 11 #[.slice A n cp, .int .i64 (N : Int)] w (fun e w' => ∃ v, e = .returned v ∧ CutV w' v M ∧ Below w.heap.size w w') → Calls Try.prog 11 #[.slice A n cp, .int .i64 (N : Int)] w fun e w' => ∃ A' n' cp' x', e = .returned (.slice A' n' cp') ∧ n' ≤ 65536 ∧ ArgB w' A' n' x' ∧ Below w.heap.size w w' := by
    intro M hM h
    refine h.mono ?_
    rintro e w' ⟨v, rfl, ⟨A', cp', x', rfl, hA'⟩, hB⟩
    exact ⟨A', M, cp', x', rfl, hM, hA', hB⟩
  by_cases hck : cp = k
  · have hnk : n = k := by omega
    cases A with
    | none =>
      have h0 := hcp.2 rfl
      have e1 : n = 0 := by omega
      subst h0 e1
      exact out _ (by omega) (vCut_nil x N hN.1 w)
    | some a =>
      rw [hck, hnk] at out ⊢
      exact out _ (by omega) (vCut_end a k x N (by omega) (by omega) w)
  · by_cases h0 : 0 < n
    · obtain ⟨b, off, rfl, hb, hc⟩ := hA h0
      exact out _ (by omega) (vCut_some b off n cp x N k (by omega) hk (by omega) hcp.1 hck hn w hb hc)
    · have e1 : n = 0 := by omega
      have e2 : k = 0 := by omega
      subst e1 e2
      cases A with
      | none => exact absurd (hcp.2 rfl) hck
      | some a => exact out _ (by omega) (vCut_more a cp x N hN.1 (by omega) w)
theorem vCut_1 (A : Option Addr) (n cp : Nat) (x : Nat → Nat) (hn : n ≤ 65536) (hcp : n ≤ cp ∧ (A = none → cp = 0)) (w : World) (hA : ArgB w A n x) :
    Calls Try.prog 11 #[.slice A n cp, .int .i64 1] w fun e w' => ∃ A' n' cp' x', e = .returned (.slice A' n' cp') ∧ n' ≤ 65536 ∧ ArgB w' A' n' x' ∧ Below w.heap.size w w' := vCut_any A n cp x 1 ⟨by omega, by omega⟩ hn hcp w hA
theorem vCut_2 (A : Option Addr) (n cp : Nat) (x : Nat → Nat) (hn : n ≤ 65536) (hcp : n ≤ cp ∧ (A = none → cp = 0)) (w : World) (hA : ArgB w A n x) :
    Calls Try.prog 11 #[.slice A n cp, .int .i64 2] w fun e w' => ∃ A' n' cp' x', e = .returned (.slice A' n' cp') ∧ n' ≤ 65536 ∧ ArgB w' A' n' x' ∧ Below w.heap.size w w' := vCut_any A n cp x 2 ⟨by omega, by omega⟩ hn hcp w hA

end Go.Proofs.Ytegdnfmhhigjfaa

namespace Go.Proofs.Ytegdnfmhhigjfaa
open Go.RowKit

def rtB (b : Nat → Int) : Nat → Nat → Int
  | 0 => b
  | n + 1 => quarter (rtB b n)
theorem formB_lo {b : Nat → Int} {k : Nat} (hk : k < 4) : rtB b (k % 4) = formB b k := by
  rcases (by omega : k = 0 ∨ k = 1 ∨ k = 2 ∨ k = 3) with rfl | rfl | rfl | rfl <;> rfl
theorem formB_hi {b : Nat → Int} {k : Nat} (hk : k < 8) (h4 : 4 ≤ k) : mirror (rtB b (k % 4)) = formB b k := by
  rcases (by omega : k = 4 ∨ k = 5 ∨ k = 6 ∨ k = 7) with rfl | rfl | rfl | rfl <;> rfl
theorem form_nat {d : Int} (h : inB d 0 7 = true) : ∃ n : Nat, n < 8 ∧ d = (n : Int) := by
  have h' : 0 ≤ d ∧ d ≤ 7 := by simpa [inB] using h
  exact ⟨d.toNat, by omega, by omega⟩

set_option maxHeartbeats 8000000 in
set_option maxRecDepth 100000 in
theorem l3Made_any (b : Nat → Int) (k : Nat) (hk : k < 8) (w : World) :
    Calls Try.prog 66 #[.agg #[.int .i64 (b 0), .int .i64 (b 1), .int .i64 (b 2), .int .i64 (b 3), .int .i64 (b 4), .int .i64 (b 5), .int .i64 (b 6), .int .i64 (b 7), .int .i64 (b 8), .int .i64 (b 9), .int .i64 (b 10), .int .i64 (b 11), .int .i64 (b 12), .int .i64 (b 13), .int .i64 (b 14), .int .i64 (b 15)], .int .i64 k] w fun e w' => e = .returned (.agg #[.int .i64 ((formB b k) 0), .int .i64 ((formB b k) 1), .int .i64 ((formB b k) 2), .int .i64 ((formB b k) 3), .int .i64 ((formB b k) 4), .int .i64 ((formB b k) 5), .int .i64 ((formB b k) 6), .int .i64 ((formB b k) 7), .int .i64 ((formB b k) 8), .int .i64 ((formB b k) 9), .int .i64 ((formB b k) 10), .int .i64 ((formB b k) 11), .int .i64 ((formB b k) 12), .int .i64 ((formB b k) 13), .int .i64 ((formB b k) 14), .int .i64 ((formB b k) 15)]) ∧ Below w.heap.size w w' := by
  go_enter Try.func66, Try.ntmps66
  go_upto_region 2 with (fail)
  generalize hW : (w.alloc _).alloc _ = w1
  have hB : Below w.heap.size w w1 := by (rw [← hW]; exact (by repeat (first | (with_reducible exact Below.refl _ _) | (with_reducible assumption) | (with_reducible refine below_go ?_ (by with_reducible assumption)) | (with_reducible refine below_new ?_ _) | ((with_reducible refine below_put ?_ ?_ _); rotate_left; (dsimp only; omega)) | (with_reducible refine Below.drew ?_) | (with_reducible refine below_dn ?_ _))))
  have hsz : Hid (w1.heap.size = w.heap.size + 1 + 1) := hide (by rw [← hW]; simp)
  have i0 : Has w1 (w.heap.size) 16 (fun o => .int .i64 (b o)) := by (rw [← hW]; repeat (first | (refine Has.new ?_ rfl; simp; done) | refine Has.alloc ?_ _))
  have ci0 := i0.1; have fi0 := i0.2.1; have zi0 := i0.2.2
  have i1 : Has w1 (w.heap.size + 1) 16 (fun _ => .int .i64 0) := by (rw [← hW]; repeat (first | (refine Has.new ?_ rfl; simp; done) | refine Has.alloc ?_ _))
  have ci1 := i1.1; have fi1 := i1.2.1; have zi1 := i1.2.2
  clear hW
  clear ci0 fi0 zi0 ci1 fi1 zi1 hsz
  go_loopw [5] (fun v wr => ∃ i : Nat, i ≤ k % 4 ∧ v = .int .i64 i ∧ Below w.heap.size w wr ∧ Has wr w.heap.size 16 (fun o => .int .i64 (rtB b i o)) ∧ Has wr (w.heap.size + 1) 16 (fun _ => .int .i64 0)) (fun i _ => k % 4 - (intOf i).toNat)
  case atStart => exact ⟨0, by omega, rfl, hB, i0, i1⟩
  case round =>
    clear hB i0 i1
    obtain ⟨i, hi, rfl, hB, i0, i1⟩ := hrel
    have hm : ((k % 4 : Nat) : Int) = (k : Int) % 4 := by omega
    have HM := hide hm
    clear hm
    have a1 : (0 : Int) ≤ k := by omega
    have a2 : (k : Int) < 8 := by omega
    have ci0 := i0.1; have fi0 := i0.2.1; have zi0 := i0.2.2
    by_cases h4 : i = k % 4
    · have h5 : ¬ ((i : Int) < (k : Int) % 4) := by rw [← HM.out]; omega
      by_cases h8 : k < 4
      · have h9 : (k : Int) < 4 := by omega
        have i0 : Has wr w.heap.size 16 (fun o => .int .i64 (formB b k o)) := by rw [← formB_lo h8, ← h4]; exact i0
        clear h4 hi
        go_wp2_with (first | (refine load_Board rfl _ rfl _ _ rfl (by repeat (first | (with_reducible assumption) | (with_reducible apply Has.set) | ((with_reducible apply Has.other); (case hne => (dsimp only; omega))) | (with_reducible apply Has.alloc) | (with_reducible apply Has.drew) | (with_reducible apply Has.drewN))) (by omega) ?_) | (refine store_BoardF rfl _ _ rfl _ _ rfl rfl (by repeat (first | (with_reducible assumption) | (with_reducible apply Has.set) | ((with_reducible apply Has.other); (case hne => (dsimp only; omega))) | (with_reducible apply Has.alloc) | (with_reducible apply Has.drew) | (with_reducible apply Has.drewN))) ?_; intro w3 ho3 hn3; have hB' : Below w.heap.size w w3 := below_only (by repeat (first | (with_reducible exact Below.refl _ _) | (with_reducible assumption) | (with_reducible refine below_go ?_ (by with_reducible assumption)) | (with_reducible refine below_new ?_ _) | ((with_reducible refine below_put ?_ ?_ _); rotate_left; (dsimp only; omega)) | (with_reducible refine Below.drew ?_) | (with_reducible refine below_dn ?_ _))) ho3 (by omega); have i0' : Has w3 (w.heap.size) 16 _ := (by first | (with_reducible exact hn3) | exact Has.only (by repeat (first | (with_reducible assumption) | (with_reducible apply Has.set) | ((with_reducible apply Has.other); (case hne => (dsimp only; omega))) | (with_reducible apply Has.alloc) | (with_reducible apply Has.drew) | (with_reducible apply Has.drewN))) ho3 (by omega)); have i1' : Has w3 (w.heap.size + 1) 16 _ := (by first | (with_reducible exact hn3) | exact Has.only (by repeat (first | (with_reducible assumption) | (with_reducible apply Has.set) | ((with_reducible apply Has.other); (case hne => (dsimp only; omega))) | (with_reducible apply Has.alloc) | (with_reducible apply Has.drew) | (with_reducible apply Has.drewN))) ho3 (by omega)); clear ho3 hn3; clear hB; have hB := hB'; clear hB'; (try clear fi0); (try clear zi0); (try clear ci0); clear i0; have i0 := i0'; clear i0'; have ci0 := i0.1; have fi0 := i0.2.1; have zi0 := i0.2.2; (try clear fi1); (try clear zi1); (try clear ci1); clear i1; have i1 := i1'; clear i1'; have ci1 := i1.1; have fi1 := i1.2.1; have zi1 := i1.2.2))
        refine bodyPost_ret (results_cell rfl rfl (loadVar_Board i1 (by omega))) rfl ⟨rfl, (by repeat (first | (with_reducible exact Below.refl _ _) | (with_reducible assumption) | (with_reducible refine below_go ?_ (by with_reducible assumption)) | (with_reducible refine below_new ?_ _) | ((with_reducible refine below_put ?_ ?_ _); rotate_left; (dsimp only; omega)) | (with_reducible refine Below.drew ?_) | (with_reducible refine below_dn ?_ _)))⟩
      · have h9 : (4 : Int) ≤ k := by omega
        have HF := hide (formB_hi (b := b) hk (by omega))
        rw [← h4] at HF
        clear h4 hi
        go_wp2_with (first | (go_at_call 115; (with_reducible refine (l3Mirror_any _ _).mono ?_); rintro e w2 ⟨rfl, hb2⟩; have hB' : Below w.heap.size w w2 := below_go (by repeat (first | (with_reducible exact Below.refl _ _) | (with_reducible assumption) | (with_reducible refine below_go ?_ (by with_reducible assumption)) | (with_reducible refine below_new ?_ _) | ((with_reducible refine below_put ?_ ?_ _); rotate_left; (dsimp only; omega)) | (with_reducible refine Below.drew ?_) | (with_reducible refine below_dn ?_ _))) hb2; have i0' : Has w2 (w.heap.size) 16 _ := Has.call (by repeat (first | (with_reducible assumption) | (with_reducible apply Has.set) | ((with_reducible apply Has.other); (case hne => (dsimp only; omega))) | (with_reducible apply Has.alloc) | (with_reducible apply Has.drew) | (with_reducible apply Has.drewN))) hb2; have i1' : Has w2 (w.heap.size + 1) 16 _ := Has.call (by repeat (first | (with_reducible assumption) | (with_reducible apply Has.set) | ((with_reducible apply Has.other); (case hne => (dsimp only; omega))) | (with_reducible apply Has.alloc) | (with_reducible apply Has.drew) | (with_reducible apply Has.drewN))) hb2; clear hB hb2; have hB := hB'; clear hB'; (try clear fi0); (try clear zi0); (try clear ci0); clear i0; have i0 := i0'; clear i0'; have ci0 := i0.1; have fi0 := i0.2.1; have zi0 := i0.2.2; (try clear fi1); (try clear zi1); (try clear ci1); clear i1; have i1 := i1'; clear i1'; have ci1 := i1.1; have fi1 := i1.2.1; have zi1 := i1.2.2) | (refine load_Board rfl _ rfl _ _ rfl (by repeat (first | (with_reducible assumption) | (with_reducible apply Has.set) | ((with_reducible apply Has.other); (case hne => (dsimp only; omega))) | (with_reducible apply Has.alloc) | (with_reducible apply Has.drew) | (with_reducible apply Has.drewN))) (by omega) ?_) | (refine store_BoardF rfl _ _ rfl _ _ rfl rfl (by repeat (first | (with_reducible assumption) | (with_reducible apply Has.set) | ((with_reducible apply Has.other); (case hne => (dsimp only; omega))) | (with_reducible apply Has.alloc) | (with_reducible apply Has.drew) | (with_reducible apply Has.drewN))) ?_; intro w3 ho3 hn3; have hB' : Below w.heap.size w w3 := below_only (by repeat (first | (with_reducible exact Below.refl _ _) | (with_reducible assumption) | (with_reducible refine below_go ?_ (by with_reducible assumption)) | (with_reducible refine below_new ?_ _) | ((with_reducible refine below_put ?_ ?_ _); rotate_left; (dsimp only; omega)) | (with_reducible refine Below.drew ?_) | (with_reducible refine below_dn ?_ _))) ho3 (by omega); have i0' : Has w3 (w.heap.size) 16 _ := (by first | (with_reducible exact hn3) | exact Has.only (by repeat (first | (with_reducible assumption) | (with_reducible apply Has.set) | ((with_reducible apply Has.other); (case hne => (dsimp only; omega))) | (with_reducible apply Has.alloc) | (with_reducible apply Has.drew) | (with_reducible apply Has.drewN))) ho3 (by omega)); have i1' : Has w3 (w.heap.size + 1) 16 _ := (by first | (with_reducible exact hn3) | exact Has.only (by repeat (first | (with_reducible assumption) | (with_reducible apply Has.set) | ((with_reducible apply Has.other); (case hne => (dsimp only; omega))) | (with_reducible apply Has.alloc) | (with_reducible apply Has.drew) | (with_reducible apply Has.drewN))) ho3 (by omega)); clear ho3 hn3; clear hB; have hB := hB'; clear hB'; (try clear fi0); (try clear zi0); (try clear ci0); clear i0; have i0 := i0'; clear i0'; have ci0 := i0.1; have fi0 := i0.2.1; have zi0 := i0.2.2; (try clear fi1); (try clear zi1); (try clear ci1); clear i1; have i1 := i1'; clear i1'; have ci1 := i1.1; have fi1 := i1.2.1; have zi1 := i1.2.2))
        refine bodyPost_ret (results_cell rfl rfl (loadVar_Board i1 (by omega))) rfl ⟨by rw [← HF.out], (by repeat (first | (with_reducible exact Below.refl _ _) | (with_reducible assumption) | (with_reducible refine below_go ?_ (by with_reducible assumption)) | (with_reducible refine below_new ?_ _) | ((with_reducible refine below_put ?_ ?_ _); rotate_left; (dsimp only; omega)) | (with_reducible refine Below.drew ?_) | (with_reducible refine below_dn ?_ _)))⟩
    · have hlt : (i : Int) < (k : Int) % 4 := by rw [← HM.out]; omega
      have hlt2 : i < k % 4 := by omega
      have hi4 : i < 4 := by omega
      go_wp2_with (first | (go_at_call 114; (with_reducible refine (l3Quarter_any _ _).mono ?_); rintro e w2 ⟨rfl, hb2⟩; have hB' : Below w.heap.size w w2 := below_go (by repeat (first | (with_reducible exact Below.refl _ _) | (with_reducible assumption) | (with_reducible refine below_go ?_ (by with_reducible assumption)) | (with_reducible refine below_new ?_ _) | ((with_reducible refine below_put ?_ ?_ _); rotate_left; (dsimp only; omega)) | (with_reducible refine Below.drew ?_) | (with_reducible refine below_dn ?_ _))) hb2; have i0' : Has w2 (w.heap.size) 16 _ := Has.call (by repeat (first | (with_reducible assumption) | (with_reducible apply Has.set) | ((with_reducible apply Has.other); (case hne => (dsimp only; omega))) | (with_reducible apply Has.alloc) | (with_reducible apply Has.drew) | (with_reducible apply Has.drewN))) hb2; have i1' : Has w2 (w.heap.size + 1) 16 _ := Has.call (by repeat (first | (with_reducible assumption) | (with_reducible apply Has.set) | ((with_reducible apply Has.other); (case hne => (dsimp only; omega))) | (with_reducible apply Has.alloc) | (with_reducible apply Has.drew) | (with_reducible apply Has.drewN))) hb2; clear hB hb2; have hB := hB'; clear hB'; (try clear fi0); (try clear zi0); (try clear ci0); clear i0; have i0 := i0'; clear i0'; have ci0 := i0.1; have fi0 := i0.2.1; have zi0 := i0.2.2; (try clear fi1); (try clear zi1); (try clear ci1); clear i1; have i1 := i1'; clear i1'; have ci1 := i1.1; have fi1 := i1.2.1; have zi1 := i1.2.2) | (refine load_Board rfl _ rfl _ _ rfl (by repeat (first | (with_reducible assumption) | (with_reducible apply Has.set) | ((with_reducible apply Has.other); (case hne => (dsimp only; omega))) | (with_reducible apply Has.alloc) | (with_reducible apply Has.drew) | (with_reducible apply Has.drewN))) (by omega) ?_) | (refine store_BoardF rfl _ _ rfl _ _ rfl rfl (by repeat (first | (with_reducible assumption) | (with_reducible apply Has.set) | ((with_reducible apply Has.other); (case hne => (dsimp only; omega))) | (with_reducible apply Has.alloc) | (with_reducible apply Has.drew) | (with_reducible apply Has.drewN))) ?_; intro w3 ho3 hn3; have hB' : Below w.heap.size w w3 := below_only (by repeat (first | (with_reducible exact Below.refl _ _) | (with_reducible assumption) | (with_reducible refine below_go ?_ (by with_reducible assumption)) | (with_reducible refine below_new ?_ _) | ((with_reducible refine below_put ?_ ?_ _); rotate_left; (dsimp only; omega)) | (with_reducible refine Below.drew ?_) | (with_reducible refine below_dn ?_ _))) ho3 (by omega); have i0' : Has w3 (w.heap.size) 16 _ := (by first | (with_reducible exact hn3) | exact Has.only (by repeat (first | (with_reducible assumption) | (with_reducible apply Has.set) | ((with_reducible apply Has.other); (case hne => (dsimp only; omega))) | (with_reducible apply Has.alloc) | (with_reducible apply Has.drew) | (with_reducible apply Has.drewN))) ho3 (by omega)); have i1' : Has w3 (w.heap.size + 1) 16 _ := (by first | (with_reducible exact hn3) | exact Has.only (by repeat (first | (with_reducible assumption) | (with_reducible apply Has.set) | ((with_reducible apply Has.other); (case hne => (dsimp only; omega))) | (with_reducible apply Has.alloc) | (with_reducible apply Has.drew) | (with_reducible apply Has.drewN))) ho3 (by omega)); clear ho3 hn3; clear hB; have hB := hB'; clear hB'; (try clear fi0); (try clear zi0); (try clear ci0); clear i0; have i0 := i0'; clear i0'; have ci0 := i0.1; have fi0 := i0.2.1; have zi0 := i0.2.2; (try clear fi1); (try clear zi1); (try clear ci1); clear i1; have i1 := i1'; clear i1'; have ci1 := i1.1; have fi1 := i1.2.1; have zi1 := i1.2.2))
      go_roundw
      case rel => exact ⟨i + 1, by omega, by go_num, hB, i0, i1⟩
      case measure => simp [intOf]; omega

end Go.Proofs.Ytegdnfmhhigjfaa

namespace Go.Proofs.Ytegdnfmhhigjfaa
open Go.RowKit

set_option maxHeartbeats 4000000 in
set_option maxRecDepth 100000 in
theorem formBoard_any (b : Nat → Int) (d : Int) (w : World) : Calls Try.prog 8 #[.agg #[.int .i64 (b 0), .int .i64 (b 1), .int .i64 (b 2), .int .i64 (b 3), .int .i64 (b 4), .int .i64 (b 5), .int .i64 (b 6), .int .i64 (b 7), .int .i64 (b 8), .int .i64 (b 9), .int .i64 (b 10), .int .i64 (b 11), .int .i64 (b 12), .int .i64 (b 13), .int .i64 (b 14), .int .i64 (b 15)], .int .i64 d] w fun e w' => e = .returned (.tuple #[.agg #[.int .i64 ((bz (bdB b && inB d 0 7) (formB b d.toNat)) 0), .int .i64 ((bz (bdB b && inB d 0 7) (formB b d.toNat)) 1), .int .i64 ((bz (bdB b && inB d 0 7) (formB b d.toNat)) 2), .int .i64 ((bz (bdB b && inB d 0 7) (formB b d.toNat)) 3), .int .i64 ((bz (bdB b && inB d 0 7) (formB b d.toNat)) 4), .int .i64 ((bz (bdB b && inB d 0 7) (formB b d.toNat)) 5), .int .i64 ((bz (bdB b && inB d 0 7) (formB b d.toNat)) 6), .int .i64 ((bz (bdB b && inB d 0 7) (formB b d.toNat)) 7), .int .i64 ((bz (bdB b && inB d 0 7) (formB b d.toNat)) 8), .int .i64 ((bz (bdB b && inB d 0 7) (formB b d.toNat)) 9), .int .i64 ((bz (bdB b && inB d 0 7) (formB b d.toNat)) 10), .int .i64 ((bz (bdB b && inB d 0 7) (formB b d.toNat)) 11), .int .i64 ((bz (bdB b && inB d 0 7) (formB b d.toNat)) 12), .int .i64 ((bz (bdB b && inB d 0 7) (formB b d.toNat)) 13), .int .i64 ((bz (bdB b && inB d 0 7) (formB b d.toNat)) 14), .int .i64 ((bz (bdB b && inB d 0 7) (formB b d.toNat)) 15)], .bool (bdB b && inB d 0 7)]) ∧ Below w.heap.size w w' := by
  cases hb : bdB b
  · simp only [Bool.false_and, bz, zr_false]
    go_enter Try.func8, Try.ntmps8
    go_upto_region 1 with (fail)
    generalize hW : (w.alloc _).alloc _ = w1
    have hB : Below w.heap.size w w1 := by (rw [← hW]; exact (by repeat (first | (with_reducible exact Below.refl _ _) | (with_reducible assumption) | (with_reducible refine below_go ?_ (by with_reducible assumption)) | (with_reducible refine below_new ?_ _) | ((with_reducible refine below_put ?_ ?_ _); rotate_left; (dsimp only; omega)) | (with_reducible refine Below.drew ?_) | (with_reducible refine below_dn ?_ _))))
    have hsz : Hid (w1.heap.size = w.heap.size + 1 + 1) := hide (by rw [← hW]; simp)
    have i0 : Has w1 (w.heap.size) 16 (fun o => .int .i64 (b o)) := by (rw [← hW]; repeat (first | (refine Has.new ?_ rfl; simp; done) | refine Has.alloc ?_ _))
    have ci0 := i0.1; have fi0 := i0.2.1; have zi0 := i0.2.2
    have i1 : Has w1 (w.heap.size + 1) 16 (fun _ => .int .i64 0) := by (rw [← hW]; repeat (first | (refine Has.new ?_ rfl; simp; done) | refine Has.alloc ?_ _))
    have ci1 := i1.1; have fi1 := i1.2.1; have zi1 := i1.2.2
    clear hW
    go_wp2_with (first | (go_at_call 27; (with_reducible refine (isBoard_any _ _).mono ?_); rintro e w2 ⟨rfl, hb2⟩; have hB' : Below w.heap.size w w2 := below_go (by repeat (first | (with_reducible exact Below.refl _ _) | (with_reducible assumption) | (with_reducible refine below_go ?_ (by with_reducible assumption)) | (with_reducible refine below_new ?_ _) | ((with_reducible refine below_put ?_ ?_ _); rotate_left; (dsimp only; omega)) | (with_reducible refine Below.drew ?_) | (with_reducible refine below_dn ?_ _))) hb2; have i0' : Has w2 (w.heap.size) 16 _ := Has.call (by repeat (first | (with_reducible assumption) | (with_reducible apply Has.set) | ((with_reducible apply Has.other); (case hne => (dsimp only; omega))) | (with_reducible apply Has.alloc) | (with_reducible apply Has.drew) | (with_reducible apply Has.drewN))) hb2; have i1' : Has w2 (w.heap.size + 1) 16 _ := Has.call (by repeat (first | (with_reducible assumption) | (with_reducible apply Has.set) | ((with_reducible apply Has.other); (case hne => (dsimp only; omega))) | (with_reducible apply Has.alloc) | (with_reducible apply Has.drew) | (with_reducible apply Has.drewN))) hb2; clear hB hb2; have hB := hB'; clear hB'; (try clear fi0); (try clear zi0); (try clear ci0); clear i0; have i0 := i0'; clear i0'; have ci0 := i0.1; have fi0 := i0.2.1; have zi0 := i0.2.2; (try clear fi1); (try clear zi1); (try clear ci1); clear i1; have i1 := i1'; clear i1'; have ci1 := i1.1; have fi1 := i1.2.1; have zi1 := i1.2.2) | (go_at_call 62; refine (isForm_any _ _).mono ?_; rintro e w1 ⟨rfl, rfl⟩) | (refine load_Board rfl _ rfl _ _ rfl (by repeat (first | (with_reducible assumption) | (with_reducible apply Has.set) | ((with_reducible apply Has.other); (case hne => (dsimp only; omega))) | (with_reducible apply Has.alloc) | (with_reducible apply Has.drew) | (with_reducible apply Has.drewN))) (by omega) ?_) | (refine store_Board rfl _ _ rfl _ _ _ _ _ _ _ _ _ _ _ _ _ _ _ _ _ _ rfl rfl rfl (by repeat (first | (with_reducible assumption) | (with_reducible apply Has.set) | ((with_reducible apply Has.other); (case hne => (dsimp only; omega))) | (with_reducible apply Has.alloc) | (with_reducible apply Has.drew) | (with_reducible apply Has.drewN))) (by omega) ?_; intro w3 ho3 hn3; have hB' : Below w.heap.size w w3 := below_only (by repeat (first | (with_reducible exact Below.refl _ _) | (with_reducible assumption) | (with_reducible refine below_go ?_ (by with_reducible assumption)) | (with_reducible refine below_new ?_ _) | ((with_reducible refine below_put ?_ ?_ _); rotate_left; (dsimp only; omega)) | (with_reducible refine Below.drew ?_) | (with_reducible refine below_dn ?_ _))) ho3 (by omega); have i0' : Has w3 (w.heap.size) 16 _ := (by first | (with_reducible exact hn3) | exact Has.only (by repeat (first | (with_reducible assumption) | (with_reducible apply Has.set) | ((with_reducible apply Has.other); (case hne => (dsimp only; omega))) | (with_reducible apply Has.alloc) | (with_reducible apply Has.drew) | (with_reducible apply Has.drewN))) ho3 (by omega)); have i1' : Has w3 (w.heap.size + 1) 16 _ := (by first | (with_reducible exact hn3) | exact Has.only (by repeat (first | (with_reducible assumption) | (with_reducible apply Has.set) | ((with_reducible apply Has.other); (case hne => (dsimp only; omega))) | (with_reducible apply Has.alloc) | (with_reducible apply Has.drew) | (with_reducible apply Has.drewN))) ho3 (by omega)); clear ho3 hn3; clear hB; have hB := hB'; clear hB'; (try clear fi0); (try clear zi0); (try clear ci0); clear i0; have i0 := i0'; clear i0'; have ci0 := i0.1; have fi0 := i0.2.1; have zi0 := i0.2.2; (try clear fi1); (try clear zi1); (try clear ci1); clear i1; have i1 := i1'; clear i1'; have ci1 := i1.1; have fi1 := i1.2.1; have zi1 := i1.2.2))
    refine bodyPost_ret (results_cell_t rfl rfl (loadVar_Board i1 (by omega))) rfl ⟨rfl, (by repeat (first | (with_reducible exact Below.refl _ _) | (with_reducible assumption) | (with_reducible refine below_go ?_ (by with_reducible assumption)) | (with_reducible refine below_new ?_ _) | ((with_reducible refine below_put ?_ ?_ _); rotate_left; (dsimp only; omega)) | (with_reducible refine Below.drew ?_) | (with_reducible refine below_dn ?_ _)))⟩
  · cases hd : inB d 0 7
    · simp only [Bool.and_false, bz, zr_false]
      go_enter Try.func8, Try.ntmps8
      go_upto_region 1 with (fail)
      generalize hW : (w.alloc _).alloc _ = w1
      have hB : Below w.heap.size w w1 := by (rw [← hW]; exact (by repeat (first | (with_reducible exact Below.refl _ _) | (with_reducible assumption) | (with_reducible refine below_go ?_ (by with_reducible assumption)) | (with_reducible refine below_new ?_ _) | ((with_reducible refine below_put ?_ ?_ _); rotate_left; (dsimp only; omega)) | (with_reducible refine Below.drew ?_) | (with_reducible refine below_dn ?_ _))))
      have hsz : Hid (w1.heap.size = w.heap.size + 1 + 1) := hide (by rw [← hW]; simp)
      have i0 : Has w1 (w.heap.size) 16 (fun o => .int .i64 (b o)) := by (rw [← hW]; repeat (first | (refine Has.new ?_ rfl; simp; done) | refine Has.alloc ?_ _))
      have ci0 := i0.1; have fi0 := i0.2.1; have zi0 := i0.2.2
      have i1 : Has w1 (w.heap.size + 1) 16 (fun _ => .int .i64 0) := by (rw [← hW]; repeat (first | (refine Has.new ?_ rfl; simp; done) | refine Has.alloc ?_ _))
      have ci1 := i1.1; have fi1 := i1.2.1; have zi1 := i1.2.2
      clear hW
      go_wp2_with (first | (go_at_call 27; (with_reducible refine (isBoard_any _ _).mono ?_); rintro e w2 ⟨rfl, hb2⟩; have hB' : Below w.heap.size w w2 := below_go (by repeat (first | (with_reducible exact Below.refl _ _) | (with_reducible assumption) | (with_reducible refine below_go ?_ (by with_reducible assumption)) | (with_reducible refine below_new ?_ _) | ((with_reducible refine below_put ?_ ?_ _); rotate_left; (dsimp only; omega)) | (with_reducible refine Below.drew ?_) | (with_reducible refine below_dn ?_ _))) hb2; have i0' : Has w2 (w.heap.size) 16 _ := Has.call (by repeat (first | (with_reducible assumption) | (with_reducible apply Has.set) | ((with_reducible apply Has.other); (case hne => (dsimp only; omega))) | (with_reducible apply Has.alloc) | (with_reducible apply Has.drew) | (with_reducible apply Has.drewN))) hb2; have i1' : Has w2 (w.heap.size + 1) 16 _ := Has.call (by repeat (first | (with_reducible assumption) | (with_reducible apply Has.set) | ((with_reducible apply Has.other); (case hne => (dsimp only; omega))) | (with_reducible apply Has.alloc) | (with_reducible apply Has.drew) | (with_reducible apply Has.drewN))) hb2; clear hB hb2; have hB := hB'; clear hB'; (try clear fi0); (try clear zi0); (try clear ci0); clear i0; have i0 := i0'; clear i0'; have ci0 := i0.1; have fi0 := i0.2.1; have zi0 := i0.2.2; (try clear fi1); (try clear zi1); (try clear ci1); clear i1; have i1 := i1'; clear i1'; have ci1 := i1.1; have fi1 := i1.2.1; have zi1 := i1.2.2) | (go_at_call 62; refine (isForm_any _ _).mono ?_; rintro e w1 ⟨rfl, rfl⟩) | (refine load_Board rfl _ rfl _ _ rfl (by repeat (first | (with_reducible assumption) | (with_reducible apply Has.set) | ((with_reducible apply Has.other); (case hne => (dsimp only; omega))) | (with_reducible apply Has.alloc) | (with_reducible apply Has.drew) | (with_reducible apply Has.drewN))) (by omega) ?_) | (refine store_Board rfl _ _ rfl _ _ _ _ _ _ _ _ _ _ _ _ _ _ _ _ _ _ rfl rfl rfl (by repeat (first | (with_reducible assumption) | (with_reducible apply Has.set) | ((with_reducible apply Has.other); (case hne => (dsimp only; omega))) | (with_reducible apply Has.alloc) | (with_reducible apply Has.drew) | (with_reducible apply Has.drewN))) (by omega) ?_; intro w3 ho3 hn3; have hB' : Below w.heap.size w w3 := below_only (by repeat (first | (with_reducible exact Below.refl _ _) | (with_reducible assumption) | (with_reducible refine below_go ?_ (by with_reducible assumption)) | (with_reducible refine below_new ?_ _) | ((with_reducible refine below_put ?_ ?_ _); rotate_left; (dsimp only; omega)) | (with_reducible refine Below.drew ?_) | (with_reducible refine below_dn ?_ _))) ho3 (by omega); have i0' : Has w3 (w.heap.size) 16 _ := (by first | (with_reducible exact hn3) | exact Has.only (by repeat (first | (with_reducible assumption) | (with_reducible apply Has.set) | ((with_reducible apply Has.other); (case hne => (dsimp only; omega))) | (with_reducible apply Has.alloc) | (with_reducible apply Has.drew) | (with_reducible apply Has.drewN))) ho3 (by omega)); have i1' : Has w3 (w.heap.size + 1) 16 _ := (by first | (with_reducible exact hn3) | exact Has.only (by repeat (first | (with_reducible assumption) | (with_reducible apply Has.set) | ((with_reducible apply Has.other); (case hne => (dsimp only; omega))) | (with_reducible apply Has.alloc) | (with_reducible apply Has.drew) | (with_reducible apply Has.drewN))) ho3 (by omega)); clear ho3 hn3; clear hB; have hB := hB'; clear hB'; (try clear fi0); (try clear zi0); (try clear ci0); clear i0; have i0 := i0'; clear i0'; have ci0 := i0.1; have fi0 := i0.2.1; have zi0 := i0.2.2; (try clear fi1); (try clear zi1); (try clear ci1); clear i1; have i1 := i1'; clear i1'; have ci1 := i1.1; have fi1 := i1.2.1; have zi1 := i1.2.2))
      refine bodyPost_ret (results_cell_t rfl rfl (loadVar_Board i1 (by omega))) rfl ⟨rfl, (by repeat (first | (with_reducible exact Below.refl _ _) | (with_reducible assumption) | (with_reducible refine below_go ?_ (by with_reducible assumption)) | (with_reducible refine below_new ?_ _) | ((with_reducible refine below_put ?_ ?_ _); rotate_left; (dsimp only; omega)) | (with_reducible refine Below.drew ?_) | (with_reducible refine below_dn ?_ _)))⟩
    · obtain ⟨n, hn, rfl⟩ := form_nat hd
      simp only [Bool.and_self, bz, zr_true, Int.toNat_natCast]
      go_enter Try.func8, Try.ntmps8
      go_upto_region 1 with (fail)
      generalize hW : (w.alloc _).alloc _ = w1
      have hB : Below w.heap.size w w1 := by (rw [← hW]; exact (by repeat (first | (with_reducible exact Below.refl _ _) | (with_reducible assumption) | (with_reducible refine below_go ?_ (by with_reducible assumption)) | (with_reducible refine below_new ?_ _) | ((with_reducible refine below_put ?_ ?_ _); rotate_left; (dsimp only; omega)) | (with_reducible refine Below.drew ?_) | (with_reducible refine below_dn ?_ _))))
      have hsz : Hid (w1.heap.size = w.heap.size + 1 + 1) := hide (by rw [← hW]; simp)
      have i0 : Has w1 (w.heap.size) 16 (fun o => .int .i64 (b o)) := by (rw [← hW]; repeat (first | (refine Has.new ?_ rfl; simp; done) | refine Has.alloc ?_ _))
      have ci0 := i0.1; have fi0 := i0.2.1; have zi0 := i0.2.2
      have i1 : Has w1 (w.heap.size + 1) 16 (fun _ => .int .i64 0) := by (rw [← hW]; repeat (first | (refine Has.new ?_ rfl; simp; done) | refine Has.alloc ?_ _))
      have ci1 := i1.1; have fi1 := i1.2.1; have zi1 := i1.2.2
      clear hW
      go_wp2_with (first | (go_at_call 27; (with_reducible refine (isBoard_any _ _).mono ?_); rintro e w2 ⟨rfl, hb2⟩; have hB' : Below w.heap.size w w2 := below_go (by repeat (first | (with_reducible exact Below.refl _ _) | (with_reducible assumption) | (with_reducible refine below_go ?_ (by with_reducible assumption)) | (with_reducible refine below_new ?_ _) | ((with_reducible refine below_put ?_ ?_ _); rotate_left; (dsimp only; omega)) | (with_reducible refine Below.drew ?_) | (with_reducible refine below_dn ?_ _))) hb2; have i0' : Has w2 (w.heap.size) 16 _ := Has.call (by repeat (first | (with_reducible assumption) | (with_reducible apply Has.set) | ((with_reducible apply Has.other); (case hne => (dsimp only; omega))) | (with_reducible apply Has.alloc) | (with_reducible apply Has.drew) | (with_reducible apply Has.drewN))) hb2; have i1' : Has w2 (w.heap.size + 1) 16 _ := Has.call (by repeat (first | (with_reducible assumption) | (with_reducible apply Has.set) | ((with_reducible apply Has.other); (case hne => (dsimp only; omega))) | (with_reducible apply Has.alloc) | (with_reducible apply Has.drew) | (with_reducible apply Has.drewN))) hb2; clear hB hb2; have hB := hB'; clear hB'; (try clear fi0); (try clear zi0); (try clear ci0); clear i0; have i0 := i0'; clear i0'; have ci0 := i0.1; have fi0 := i0.2.1; have zi0 := i0.2.2; (try clear fi1); (try clear zi1); (try clear ci1); clear i1; have i1 := i1'; clear i1'; have ci1 := i1.1; have fi1 := i1.2.1; have zi1 := i1.2.2) | (go_at_call 62; refine (isForm_any _ _).mono ?_; rintro e w1 ⟨rfl, rfl⟩) | (go_at_call 63; (with_reducible refine (form_any _ _ hn _).mono ?_); rintro e w2 ⟨rfl, hb2⟩; have hB' : Below w.heap.size w w2 := below_go (by repeat (first | (with_reducible exact Below.refl _ _) | (with_reducible assumption) | (with_reducible refine below_go ?_ (by with_reducible assumption)) | (with_reducible refine below_new ?_ _) | ((with_reducible refine below_put ?_ ?_ _); rotate_left; (dsimp only; omega)) | (with_reducible refine Below.drew ?_) | (with_reducible refine below_dn ?_ _))) hb2; have i0' : Has w2 (w.heap.size) 16 _ := Has.call (by repeat (first | (with_reducible assumption) | (with_reducible apply Has.set) | ((with_reducible apply Has.other); (case hne => (dsimp only; omega))) | (with_reducible apply Has.alloc) | (with_reducible apply Has.drew) | (with_reducible apply Has.drewN))) hb2; have i1' : Has w2 (w.heap.size + 1) 16 _ := Has.call (by repeat (first | (with_reducible assumption) | (with_reducible apply Has.set) | ((with_reducible apply Has.other); (case hne => (dsimp only; omega))) | (with_reducible apply Has.alloc) | (with_reducible apply Has.drew) | (with_reducible apply Has.drewN))) hb2; clear hB hb2; have hB := hB'; clear hB'; (try clear fi0); (try clear zi0); (try clear ci0); clear i0; have i0 := i0'; clear i0'; have ci0 := i0.1; have fi0 := i0.2.1; have zi0 := i0.2.2; (try clear fi1); (try clear zi1); (try clear ci1); clear i1; have i1 := i1'; clear i1'; have ci1 := i1.1; have fi1 := i1.2.1; have zi1 := i1.2.2) | (refine load_Board rfl _ rfl _ _ rfl (by repeat (first | (with_reducible assumption) | (with_reducible apply Has.set) | ((with_reducible apply Has.other); (case hne => (dsimp only; omega))) | (with_reducible apply Has.alloc) | (with_reducible apply Has.drew) | (with_reducible apply Has.drewN))) (by omega) ?_) | (refine store_BoardF rfl _ _ rfl _ _ rfl rfl (by repeat (first | (with_reducible assumption) | (with_reducible apply Has.set) | ((with_reducible apply Has.other); (case hne => (dsimp only; omega))) | (with_reducible apply Has.alloc) | (with_reducible apply Has.drew) | (with_reducible apply Has.drewN))) ?_; intro w3 ho3 hn3; have hB' : Below w.heap.size w w3 := below_only (by repeat (first | (with_reducible exact Below.refl _ _) | (with_reducible assumption) | (with_reducible refine below_go ?_ (by with_reducible assumption)) | (with_reducible refine below_new ?_ _) | ((with_reducible refine below_put ?_ ?_ _); rotate_left; (dsimp only; omega)) | (with_reducible refine Below.drew ?_) | (with_reducible refine below_dn ?_ _))) ho3 (by omega); have i0' : Has w3 (w.heap.size) 16 _ := (by first | (with_reducible exact hn3) | exact Has.only (by repeat (first | (with_reducible assumption) | (with_reducible apply Has.set) | ((with_reducible apply Has.other); (case hne => (dsimp only; omega))) | (with_reducible apply Has.alloc) | (with_reducible apply Has.drew) | (with_reducible apply Has.drewN))) ho3 (by omega)); have i1' : Has w3 (w.heap.size + 1) 16 _ := (by first | (with_reducible exact hn3) | exact Has.only (by repeat (first | (with_reducible assumption) | (with_reducible apply Has.set) | ((with_reducible apply Has.other); (case hne => (dsimp only; omega))) | (with_reducible apply Has.alloc) | (with_reducible apply Has.drew) | (with_reducible apply Has.drewN))) ho3 (by omega)); clear ho3 hn3; clear hB; have hB := hB'; clear hB'; (try clear fi0); (try clear zi0); (try clear ci0); clear i0; have i0 := i0'; clear i0'; have ci0 := i0.1; have fi0 := i0.2.1; have zi0 := i0.2.2; (try clear fi1); (try clear zi1); (try clear ci1); clear i1; have i1 := i1'; clear i1'; have ci1 := i1.1; have fi1 := i1.2.1; have zi1 := i1.2.2))
      refine bodyPost_ret (results_cell_t rfl rfl (loadVar_Board i1 (by omega))) rfl ⟨rfl, (by repeat (first | (with_reducible exact Below.refl _ _) | (with_reducible assumption) | (with_reducible refine below_go ?_ (by with_reducible assumption)) | (with_reducible refine below_new ?_ _) | ((with_reducible refine below_put ?_ ?_ _); rotate_left; (dsimp only; omega)) | (with_reducible refine Below.drew ?_) | (with_reducible refine below_dn ?_ _)))⟩

set_option maxHeartbeats 4000000 in
set_option maxRecDepth 100000 in
theorem specFormBoard_any (b : Nat → Int) (d : Int) (w : World) : Calls Try.prog 9 #[.agg #[.int .i64 (b 0), .int .i64 (b 1), .int .i64 (b 2), .int .i64 (b 3), .int .i64 (b 4), .int .i64 (b 5), .int .i64 (b 6), .int .i64 (b 7), .int .i64 (b 8), .int .i64 (b 9), .int .i64 (b 10), .int .i64 (b 11), .int .i64 (b 12), .int .i64 (b 13), .int .i64 (b 14), .int .i64 (b 15)], .int .i64 d] w fun e w' => e = .returned (.tuple #[.agg #[.int .i64 ((bz (bdB b && inB d 0 7) (formB b d.toNat)) 0), .int .i64 ((bz (bdB b && inB d 0 7) (formB b d.toNat)) 1), .int .i64 ((bz (bdB b && inB d 0 7) (formB b d.toNat)) 2), .int .i64 ((bz (bdB b && inB d 0 7) (formB b d.toNat)) 3), .int .i64 ((bz (bdB b && inB d 0 7) (formB b d.toNat)) 4), .int .i64 ((bz (bdB b && inB d 0 7) (formB b d.toNat)) 5), .int .i64 ((bz (bdB b && inB d 0 7) (formB b d.toNat)) 6), .int .i64 ((bz (bdB b && inB d 0 7) (formB b d.toNat)) 7), .int .i64 ((bz (bdB b && inB d 0 7) (formB b d.toNat)) 8), .int .i64 ((bz (bdB b && inB d 0 7) (formB b d.toNat)) 9), .int .i64 ((bz (bdB b && inB d 0 7) (formB b d.toNat)) 10), .int .i64 ((bz (bdB b && inB d 0 7) (formB b d.toNat)) 11), .int .i64 ((bz (bdB b && inB d 0 7) (formB b d.toNat)) 12), .int .i64 ((bz (bdB b && inB d 0 7) (formB b d.toNat)) 13), .int .i64 ((bz (bdB b && inB d 0 7) (formB b d.toNat)) 14), .int .i64 ((bz (bdB b && inB d 0 7) (formB b d.toNat)) 15)], .bool (bdB b && inB d 0 7)]) ∧ Below w.heap.size w w' := by
  cases hb : bdB b
  · simp only [Bool.false_and, bz, zr_false]
    go_enter Try.func9, Try.ntmps9
    go_upto_region 1 with (fail)
    generalize hW : (w.alloc _).alloc _ = w1
    have hB : Below w.heap.size w w1 := by (rw [← hW]; exact (by repeat (first | (with_reducible exact Below.refl _ _) | (with_reducible assumption) | (with_reducible refine below_go ?_ (by with_reducible assumption)) | (with_reducible refine below_new ?_ _) | ((with_reducible refine below_put ?_ ?_ _); rotate_left; (dsimp only; omega)) | (with_reducible refine Below.drew ?_) | (with_reducible refine below_dn ?_ _))))
    have hsz : Hid (w1.heap.size = w.heap.size + 1 + 1) := hide (by rw [← hW]; simp)
    have i0 : Has w1 (w.heap.size) 16 (fun o => .int .i64 (b o)) := by (rw [← hW]; repeat (first | (refine Has.new ?_ rfl; simp; done) | refine Has.alloc ?_ _))
    have ci0 := i0.1; have fi0 := i0.2.1; have zi0 := i0.2.2
    have i1 : Has w1 (w.heap.size + 1) 16 (fun _ => .int .i64 0) := by (rw [← hW]; repeat (first | (refine Has.new ?_ rfl; simp; done) | refine Has.alloc ?_ _))
    have ci1 := i1.1; have fi1 := i1.2.1; have zi1 := i1.2.2
    clear hW
    go_wp2_with (first | (go_at_call 64; (with_reducible refine (l2Board_any _ _).mono ?_); rintro e w2 ⟨rfl, hb2⟩; have hB' : Below w.heap.size w w2 := below_go (by repeat (first | (with_reducible exact Below.refl _ _) | (with_reducible assumption) | (with_reducible refine below_go ?_ (by with_reducible assumption)) | (with_reducible refine below_new ?_ _) | ((with_reducible refine below_put ?_ ?_ _); rotate_left; (dsimp only; omega)) | (with_reducible refine Below.drew ?_) | (with_reducible refine below_dn ?_ _))) hb2; have i0' : Has w2 (w.heap.size) 16 _ := Has.call (by repeat (first | (with_reducible assumption) | (with_reducible apply Has.set) | ((with_reducible apply Has.other); (case hne => (dsimp only; omega))) | (with_reducible apply Has.alloc) | (with_reducible apply Has.drew) | (with_reducible apply Has.drewN))) hb2; have i1' : Has w2 (w.heap.size + 1) 16 _ := Has.call (by repeat (first | (with_reducible assumption) | (with_reducible apply Has.set) | ((with_reducible apply Has.other); (case hne => (dsimp only; omega))) | (with_reducible apply Has.alloc) | (with_reducible apply Has.drew) | (with_reducible apply Has.drewN))) hb2; clear hB hb2; have hB := hB'; clear hB'; (try clear fi0); (try clear zi0); (try clear ci0); clear i0; have i0 := i0'; clear i0'; have ci0 := i0.1; have fi0 := i0.2.1; have zi0 := i0.2.2; (try clear fi1); (try clear zi1); (try clear ci1); clear i1; have i1 := i1'; clear i1'; have ci1 := i1.1; have fi1 := i1.2.1; have zi1 := i1.2.2) | (go_at_call 65; refine (l3Form_any _ _).mono ?_; rintro e w1 ⟨rfl, rfl⟩) | (refine load_Board rfl _ rfl _ _ rfl (by repeat (first | (with_reducible assumption) | (with_reducible apply Has.set) | ((with_reducible apply Has.other); (case hne => (dsimp only; omega))) | (with_reducible apply Has.alloc) | (with_reducible apply Has.drew) | (with_reducible apply Has.drewN))) (by omega) ?_) | (refine store_Board rfl _ _ rfl _ _ _ _ _ _ _ _ _ _ _ _ _ _ _ _ _ _ rfl rfl rfl (by repeat (first | (with_reducible assumption) | (with_reducible apply Has.set) | ((with_reducible apply Has.other); (case hne => (dsimp only; omega))) | (with_reducible apply Has.alloc) | (with_reducible apply Has.drew) | (with_reducible apply Has.drewN))) (by omega) ?_; intro w3 ho3 hn3; have hB' : Below w.heap.size w w3 := below_only (by repeat (first | (with_reducible exact Below.refl _ _) | (with_reducible assumption) | (with_reducible refine below_go ?_ (by with_reducible assumption)) | (with_reducible refine below_new ?_ _) | ((with_reducible refine below_put ?_ ?_ _); rotate_left; (dsimp only; omega)) | (with_reducible refine Below.drew ?_) | (with_reducible refine below_dn ?_ _))) ho3 (by omega); have i0' : Has w3 (w.heap.size) 16 _ := (by first | (with_reducible exact hn3) | exact Has.only (by repeat (first | (with_reducible assumption) | (with_reducible apply Has.set) | ((with_reducible apply Has.other); (case hne => (dsimp only; omega))) | (with_reducible apply Has.alloc) | (with_reducible apply Has.drew) | (with_reducible apply Has.drewN))) ho3 (by omega)); have i1' : Has w3 (w.heap.size + 1) 16 _ := (by first | (with_reducible exact hn3) | exact Has.only (by repeat (first | (with_reducible assumption) | (with_reducible apply Has.set) | ((with_reducible apply Has.other); (case hne => (dsimp only; omega))) | (with_reducible apply Has.alloc) | (with_reducible apply Has.drew) | (with_reducible apply Has.drewN))) ho3 (by omega)); clear ho3 hn3; clear hB; have hB := hB'; clear hB'; (try clear fi0); (try clear zi0); (try clear ci0); clear i0; have i0 := i0'; clear i0'; have ci0 := i0.1; have fi0 := i0.2.1; have zi0 := i0.2.2; (try clear fi1); (try clear zi1); (try clear ci1); clear i1; have i1 := i1'; clear i1'; have ci1 := i1.1; have fi1 := i1.2.1; have zi1 := i1.2.2))
    refine bodyPost_ret (results_cell_t rfl rfl (loadVar_Board i1 (by omega))) rfl ⟨rfl, (by repeat (first | (with_reducible exact Below.refl _ _) | (with_reducible assumption) | (with_reducible refine below_go ?_ (by with_reducible assumption)) | (with_reducible refine below_new ?_ _) | ((with_reducible refine below_put ?_ ?_ _); rotate_left; (dsimp only; omega)) | (with_reducible refine Below.drew ?_) | (with_reducible refine below_dn ?_ _)))⟩
  · cases hd : inB d 0 7
    · simp only [Bool.and_false, bz, zr_false]
      go_enter Try.func9, Try.ntmps9
      go_upto_region 1 with (fail)
      generalize hW : (w.alloc _).alloc _ = w1
      have hB : Below w.heap.size w w1 := by (rw [← hW]; exact (by repeat (first | (with_reducible exact Below.refl _ _) | (with_reducible assumption) | (with_reducible refine below_go ?_ (by with_reducible assumption)) | (with_reducible refine below_new ?_ _) | ((with_reducible refine below_put ?_ ?_ _); rotate_left; (dsimp only; omega)) | (with_reducible refine Below.drew ?_) | (with_reducible refine below_dn ?_ _))))
      have hsz : Hid (w1.heap.size = w.heap.size + 1 + 1) := hide (by rw [← hW]; simp)
      have i0 : Has w1 (w.heap.size) 16 (fun o => .int .i64 (b o)) := by (rw [← hW]; repeat (first | (refine Has.new ?_ rfl; simp; done) | refine Has.alloc ?_ _))
      have ci0 := i0.1; have fi0 := i0.2.1; have zi0 := i0.2.2
      have i1 : Has w1 (w.heap.size + 1) 16 (fun _ => .int .i64 0) := by (rw [← hW]; repeat (first | (refine Has.new ?_ rfl; simp; done) | refine Has.alloc ?_ _))
      have ci1 := i1.1; have fi1 := i1.2.1; have zi1 := i1.2.2
      clear hW
      go_wp2_with (first | (go_at_call 64; (with_reducible refine (l2Board_any _ _).mono ?_); rintro e w2 ⟨rfl, hb2⟩; have hB' : Below w.heap.size w w2 := below_go (by repeat (first | (with_reducible exact Below.refl _ _) | (with_reducible assumption) | (with_reducible refine below_go ?_ (by with_reducible assumption)) | (with_reducible refine below_new ?_ _) | ((with_reducible refine below_put ?_ ?_ _); rotate_left; (dsimp only; omega)) | (with_reducible refine Below.drew ?_) | (with_reducible refine below_dn ?_ _))) hb2; have i0' : Has w2 (w.heap.size) 16 _ := Has.call (by repeat (first | (with_reducible assumption) | (with_reducible apply Has.set) | ((with_reducible apply Has.other); (case hne => (dsimp only; omega))) | (with_reducible apply Has.alloc) | (with_reducible apply Has.drew) | (with_reducible apply Has.drewN))) hb2; have i1' : Has w2 (w.heap.size + 1) 16 _ := Has.call (by repeat (first | (with_reducible assumption) | (with_reducible apply Has.set) | ((with_reducible apply Has.other); (case hne => (dsimp only; omega))) | (with_reducible apply Has.alloc) | (with_reducible apply Has.drew) | (with_reducible apply Has.drewN))) hb2; clear hB hb2; have hB := hB'; clear hB'; (try clear fi0); (try clear zi0); (try clear ci0); clear i0; have i0 := i0'; clear i0'; have ci0 := i0.1; have fi0 := i0.2.1; have zi0 := i0.2.2; (try clear fi1); (try clear zi1); (try clear ci1); clear i1; have i1 := i1'; clear i1'; have ci1 := i1.1; have fi1 := i1.2.1; have zi1 := i1.2.2) | (go_at_call 65; refine (l3Form_any _ _).mono ?_; rintro e w1 ⟨rfl, rfl⟩) | (refine load_Board rfl _ rfl _ _ rfl (by repeat (first | (with_reducible assumption) | (with_reducible apply Has.set) | ((with_reducible apply Has.other); (case hne => (dsimp only; omega))) | (with_reducible apply Has.alloc) | (with_reducible apply Has.drew) | (with_reducible apply Has.drewN))) (by omega) ?_) | (refine store_Board rfl _ _ rfl _ _ _ _ _ _ _ _ _ _ _ _ _ _ _ _ _ _ rfl rfl rfl (by repeat (first | (with_reducible assumption) | (with_reducible apply Has.set) | ((with_reducible apply Has.other); (case hne => (dsimp only; omega))) | (with_reducible apply Has.alloc) | (with_reducible apply Has.drew) | (with_reducible apply Has.drewN))) (by omega) ?_; intro w3 ho3 hn3; have hB' : Below w.heap.size w w3 := below_only (by repeat (first | (with_reducible exact Below.refl _ _) | (with_reducible assumption) | (with_reducible refine below_go ?_ (by with_reducible assumption)) | (with_reducible refine below_new ?_ _) | ((with_reducible refine below_put ?_ ?_ _); rotate_left; (dsimp only; omega)) | (with_reducible refine Below.drew ?_) | (with_reducible refine below_dn ?_ _))) ho3 (by omega); have i0' : Has w3 (w.heap.size) 16 _ := (by first | (with_reducible exact hn3) | exact Has.only (by repeat (first | (with_reducible assumption) | (with_reducible apply Has.set) | ((with_reducible apply Has.other); (case hne => (dsimp only; omega))) | (with_reducible apply Has.alloc) | (with_reducible apply Has.drew) | (with_reducible apply Has.drewN))) ho3 (by omega)); have i1' : Has w3 (w.heap.size + 1) 16 _ := (by first | (with_reducible exact hn3) | exact Has.only (by repeat (first | (with_reducible assumption) | (with_reducible apply Has.set) | ((with_reducible apply Has.other); (case hne => (dsimp only; omega))) | (with_reducible apply Has.alloc) | (with_reducible apply Has.drew) | (with_reducible apply Has.drewN))) ho3 (by omega)); clear ho3 hn3; clear hB; have hB := hB'; clear hB'; (try clear fi0); (try clear zi0); (try clear ci0); clear i0; have i0 := i0'; clear i0'; have ci0 := i0.1; have fi0 := i0.2.1; have zi0 := i0.2.2; (try clear fi1); (try clear zi1); (try clear ci1); clear i1; have i1 := i1'; clear i1'; have ci1 := i1.1; have fi1 := i1.2.1; have zi1 := i1.2.2))
      refine bodyPost_ret (results_cell_t rfl rfl (loadVar_Board i1 (by omega))) rfl ⟨rfl, (by repeat (first | (with_reducible exact Below.refl _ _) | (with_reducible assumption) | (with_reducible refine below_go ?_ (by with_reducible assumption)) | (with_reducible refine below_new ?_ _) | ((with_reducible refine below_put ?_ ?_ _); rotate_left; (dsimp only; omega)) | (with_reducible refine Below.drew ?_) | (with_reducible refine below_dn ?_ _)))⟩
    · obtain ⟨n, hn, rfl⟩ := form_nat hd
      simp only [Bool.and_self, bz, zr_true, Int.toNat_natCast]
      go_enter Try.func9, Try.ntmps9
      go_upto_region 1 with (fail)
      generalize hW : (w.alloc _).alloc _ = w1
      have hB : Below w.heap.size w w1 := by (rw [← hW]; exact (by repeat (first | (with_reducible exact Below.refl _ _) | (with_reducible assumption) | (with_reducible refine below_go ?_ (by with_reducible assumption)) | (with_reducible refine below_new ?_ _) | ((with_reducible refine below_put ?_ ?_ _); rotate_left; (dsimp only; omega)) | (with_reducible refine Below.drew ?_) | (with_reducible refine below_dn ?_ _))))
      have hsz : Hid (w1.heap.size = w.heap.size + 1 + 1) := hide (by rw [← hW]; simp)
      have i0 : Has w1 (w.heap.size) 16 (fun o => .int .i64 (b o)) := by (rw [← hW]; repeat (first | (refine Has.new ?_ rfl; simp; done) | refine Has.alloc ?_ _))
      have ci0 := i0.1; have fi0 := i0.2.1; have zi0 := i0.2.2
      have i1 : Has w1 (w.heap.size + 1) 16 (fun _ => .int .i64 0) := by (rw [← hW]; repeat (first | (refine Has.new ?_ rfl; simp; done) | refine Has.alloc ?_ _))
      have ci1 := i1.1; have fi1 := i1.2.1; have zi1 := i1.2.2
      clear hW
      go_wp2_with (first | (go_at_call 64; (with_reducible refine (l2Board_any _ _).mono ?_); rintro e w2 ⟨rfl, hb2⟩; have hB' : Below w.heap.size w w2 := below_go (by repeat (first | (with_reducible exact Below.refl _ _) | (with_reducible assumption) | (with_reducible refine below_go ?_ (by with_reducible assumption)) | (with_reducible refine below_new ?_ _) | ((with_reducible refine below_put ?_ ?_ _); rotate_left; (dsimp only; omega)) | (with_reducible refine Below.drew ?_) | (with_reducible refine below_dn ?_ _))) hb2; have i0' : Has w2 (w.heap.size) 16 _ := Has.call (by repeat (first | (with_reducible assumption) | (with_reducible apply Has.set) | ((with_reducible apply Has.other); (case hne => (dsimp only; omega))) | (with_reducible apply Has.alloc) | (with_reducible apply Has.drew) | (with_reducible apply Has.drewN))) hb2; have i1' : Has w2 (w.heap.size + 1) 16 _ := Has.call (by repeat (first | (with_reducible assumption) | (with_reducible apply Has.set) | ((with_reducible apply Has.other); (case hne => (dsimp only; omega))) | (with_reducible apply Has.alloc) | (with_reducible apply Has.drew) | (with_reducible apply Has.drewN))) hb2; clear hB hb2; have hB := hB'; clear hB'; (try clear fi0); (try clear zi0); (try clear ci0); clear i0; have i0 := i0'; clear i0'; have ci0 := i0.1; have fi0 := i0.2.1; have zi0 := i0.2.2; (try clear fi1); (try clear zi1); (try clear ci1); clear i1; have i1 := i1'; clear i1'; have ci1 := i1.1; have fi1 := i1.2.1; have zi1 := i1.2.2) | (go_at_call 65; refine (l3Form_any _ _).mono ?_; rintro e w1 ⟨rfl, rfl⟩) | (go_at_call 66; (with_reducible refine (l3Made_any _ _ hn _).mono ?_); rintro e w2 ⟨rfl, hb2⟩; have hB' : Below w.heap.size w w2 := below_go (by repeat (first | (with_reducible exact Below.refl _ _) | (with_reducible assumption) | (with_reducible refine below_go ?_ (by with_reducible assumption)) | (with_reducible refine below_new ?_ _) | ((with_reducible refine below_put ?_ ?_ _); rotate_left; (dsimp only; omega)) | (with_reducible refine Below.drew ?_) | (with_reducible refine below_dn ?_ _))) hb2; have i0' : Has w2 (w.heap.size) 16 _ := Has.call (by repeat (first | (with_reducible assumption) | (with_reducible apply Has.set) | ((with_reducible apply Has.other); (case hne => (dsimp only; omega))) | (with_reducible apply Has.alloc) | (with_reducible apply Has.drew) | (with_reducible apply Has.drewN))) hb2; have i1' : Has w2 (w.heap.size + 1) 16 _ := Has.call (by repeat (first | (with_reducible assumption) | (with_reducible apply Has.set) | ((with_reducible apply Has.other); (case hne => (dsimp only; omega))) | (with_reducible apply Has.alloc) | (with_reducible apply Has.drew) | (with_reducible apply Has.drewN))) hb2; clear hB hb2; have hB := hB'; clear hB'; (try clear fi0); (try clear zi0); (try clear ci0); clear i0; have i0 := i0'; clear i0'; have ci0 := i0.1; have fi0 := i0.2.1; have zi0 := i0.2.2; (try clear fi1); (try clear zi1); (try clear ci1); clear i1; have i1 := i1'; clear i1'; have ci1 := i1.1; have fi1 := i1.2.1; have zi1 := i1.2.2) | (refine load_Board rfl _ rfl _ _ rfl (by repeat (first | (with_reducible assumption) | (with_reducible apply Has.set) | ((with_reducible apply Has.other); (case hne => (dsimp only; omega))) | (with_reducible apply Has.alloc) | (with_reducible apply Has.drew) | (with_reducible apply Has.drewN))) (by omega) ?_) | (refine store_BoardF rfl _ _ rfl _ _ rfl rfl (by repeat (first | (with_reducible assumption) | (with_reducible apply Has.set) | ((with_reducible apply Has.other); (case hne => (dsimp only; omega))) | (with_reducible apply Has.alloc) | (with_reducible apply Has.drew) | (with_reducible apply Has.drewN))) ?_; intro w3 ho3 hn3; have hB' : Below w.heap.size w w3 := below_only (by repeat (first | (with_reducible exact Below.refl _ _) | (with_reducible assumption) | (with_reducible refine below_go ?_ (by with_reducible assumption)) | (with_reducible refine below_new ?_ _) | ((with_reducible refine below_put ?_ ?_ _); rotate_left; (dsimp only; omega)) | (with_reducible refine Below.drew ?_) | (with_reducible refine below_dn ?_ _))) ho3 (by omega); have i0' : Has w3 (w.heap.size) 16 _ := (by first | (with_reducible exact hn3) | exact Has.only (by repeat (first | (with_reducible assumption) | (with_reducible apply Has.set) | ((with_reducible apply Has.other); (case hne => (dsimp only; omega))) | (with_reducible apply Has.alloc) | (with_reducible apply Has.drew) | (with_reducible apply Has.drewN))) ho3 (by omega)); have i1' : Has w3 (w.heap.size + 1) 16 _ := (by first | (with_reducible exact hn3) | exact Has.only (by repeat (first | (with_reducible assumption) | (with_reducible apply Has.set) | ((with_reducible apply Has.other); (case hne => (dsimp only; omega))) | (with_reducible apply Has.alloc) | (with_reducible apply Has.drew) | (with_reducible apply Has.drewN))) ho3 (by omega)); clear ho3 hn3; clear hB; have hB := hB'; clear hB'; (try clear fi0); (try clear zi0); (try clear ci0); clear i0; have i0 := i0'; clear i0'; have ci0 := i0.1; have fi0 := i0.2.1; have zi0 := i0.2.2; (try clear fi1); (try clear zi1); (try clear ci1); clear i1; have i1 := i1'; clear i1'; have ci1 := i1.1; have fi1 := i1.2.1; have zi1 := i1.2.2))
      refine bodyPost_ret (results_cell_t rfl rfl (loadVar_Board i1 (by omega))) rfl ⟨rfl, (by repeat (first | (with_reducible exact Below.refl _ _) | (with_reducible assumption) | (with_reducible refine below_go ?_ (by with_reducible assumption)) | (with_reducible refine below_new ?_ _) | ((with_reducible refine below_put ?_ ?_ _); rotate_left; (dsimp only; omega)) | (with_reducible refine Below.drew ?_) | (with_reducible refine below_dn ?_ _)))⟩

end Go.Proofs.Ytegdnfmhhigjfaa

namespace Go.Proofs.Ytegdnfmhhigjfaa

/-- The first form that moves place 0 to P and place 1 to Q. -/
def likeP (P Q : Nat) : Nat := ((List.range 8).find? fun j => decide (mvP j 0 = P) && decide (mvP j 1 = Q)).getD 0
theorem bhP_like (k m : Nat) : bhP k m = likeP (mvP m (mvP k 0)) (mvP m (mvP k 1)) := rfl
theorem find_first {p : Nat → Bool} {n k : Nat} (hk : k < n) (h : p k = true) (hall : ∀ j, j < k → p j = false) : (List.range n).find? p = some k := by
  rw [List.find?_range_eq_some]
  exact ⟨h, List.mem_range.2 hk, fun j hj => by simp [hall j hj]⟩
theorem find_none {p : Nat → Bool} {n : Nat} (hall : ∀ j, j < n → p j = false) : (List.range n).find? p = none := by
  rw [List.find?_eq_none]
  intro x hx
  simp [hall x (List.mem_range.1 hx)]

def mkB : Nat → Int := fun p => if p = 0 then 1 else if p = 1 then 2 else 0
theorem number_bh : ∀ k, k < 8 → ∀ m, m < 8 → eqB (formB mkB (bhP k m)) (formB (formB mkB k) m) = true ∧ ∀ j, j < bhP k m → eqB (formB mkB j) (formB (formB mkB k) m) = false := by decide +kernel
theorem back_bk : ∀ k, k < 8 → eqB (formB (formB mkB k) (bkP k)) mkB = true ∧ ∀ j, j < bkP k → eqB (formB (formB mkB k) j) mkB = false := by decide +kernel
theorem bkP_first : ∀ k, k < 8 → bhP k (bkP k) = 0 ∧ ∀ j, j < bkP k → ¬ bhP k j = 0 := by decide +kernel

/-- A tile alone. -/
def oneB : Nat → Int := fun p => if p = 6 then 1 else 0
def sdS (k d : Nat) : Int := if 4 ≤ k ∧ (d + k) % 4 % 2 = 0 then 2 - (((d + k) % 4 : Nat) : Int) else (((d + k) % 4 : Nat) : Int)
def sdP (k d : Nat) : Nat := (sdS k d).toNat
theorem sd_first : ∀ k, k < 8 → ∀ d, d < 4 → sdP k d < 4 ∧ (sdP k d : Int) = sdS k d ∧ eqB (slB (formB oneB k) (sdP k d)) (formB (slB oneB d) k) = true ∧ ∀ e, e < sdP k d → eqB (slB (formB oneB k) e) (formB (slB oneB d) k) = false := by decide +kernel

end Go.Proofs.Ytegdnfmhhigjfaa
