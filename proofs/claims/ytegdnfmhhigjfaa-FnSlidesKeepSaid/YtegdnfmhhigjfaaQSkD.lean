/-
  Contracts: the draws for the law of slides.
-/
import Derived.Test.YtegdnfmhhigjfaaBdD
import Derived.Test.YtegdnfmhhigjfaaQEqlB
import Derived.Test.YtegdnfmhhigjfaaSlide
import Derived.Test.YtegdnfmhhigjfaaQTiles
import Derived.Test.YtegdnfmhhigjfaaSlide2
import Derived.Deep.RegionHeld3
import Derived.Test.YtegdnfmhhigjfaaQBoard1
import Derived.Test.YtegdnfmhhigjfaaLine2
namespace Go.Proofs.Ytegdnfmhhigjfaa
open Go.RowKit

set_option maxHeartbeats 4000000 in
set_option maxRecDepth 100000 in
theorem drawSlideBoard_any (A : Option Addr) (n cp : Nat) (x : Nat → Nat) (hn : n ≤ 65536) (w : World) (hA : ArgB w A n x) :
    Calls Try.prog 23 #[.slice A n cp] w fun e w' => ∃ (b : Nat → Int) (d : Int), e = .returned (.tuple #[.agg #[.int .i64 (b 0), .int .i64 (b 1), .int .i64 (b 2), .int .i64 (b 3), .int .i64 (b 4), .int .i64 (b 5), .int .i64 (b 6), .int .i64 (b 7), .int .i64 (b 8), .int .i64 (b 9), .int .i64 (b 10), .int .i64 (b 11), .int .i64 (b 12), .int .i64 (b 13), .int .i64 (b 14), .int .i64 (b 15)], .int .i64 d]) ∧ BI b ∧ (-1 ≤ d ∧ d ≤ 4611686018427387904) ∧ Below w.heap.size w w' := by
  have HR := hide (fun w1 (hb : Below w.heap.size w w1) T => rd_new (hA.call hb) (cp := cp) T 0)
  clear hA
  go_enter Try.func23, Try.ntmps23
  go_upto_region 1 with (fail)
  generalize hW : World.alloc w _ = w1
  have hb : Below w.heap.size w w1 := by (rw [← hW]; exact below_new (Below.refl _ _) _)
  have i2 : Has w1 w.heap.size 16 (fun _ => .int .i64 0) := by
    rw [← hW]
    exact (Has.new' (n := 16) rfl).congr fun o ho => lit16' (fun _ => 0) o ho
  have hz := i2.2.2
  have HX := hide (HR.out w1 hb)
  clear hW HR
  go_upto_region 2 with (fail)
  generalize hW : World.alloc w1 _ = w3
  have hR0 := by have h := HX.out 80; rw [hW] at h; exact h
  have hb3 : Below w1.heap.size w1 w3 := by (rw [← hW]; exact below_new (Below.refl _ _) _)
  have i2x := i2.call hb3
  have hB := below_go hb hb3
  clear hW HX i2
  go_wp2_with (first | (go_at_call 79; (with_reducible refine (board_rd hn (by omega) hR0).mono ?_); rintro e w2 ⟨b, rfl, hb, hR1, hG2⟩; have i2y := i2x.grown hG2 (fun he => by have := Option.some.inj he; omega); clear i2x; have i2x := i2y; clear i2y; have hB2 : Below w.heap.size w w2 := below_gr hB hG2 (Nat.le_of_lt hz); clear hB hG2 hR0; have hB := hB2; clear hB2) | (go_at_call 72; (with_reducible refine (side_rd hn (by omega) hR1).mono ?_); rintro e w2 ⟨d, rfl, hd, hR2, hG2⟩; have i2y := i2x.grown hG2 (fun he => by have := Option.some.inj he; omega); clear i2x; have i2x := i2y; clear i2y; have hB2 : Below w.heap.size w w2 := below_gr hB hG2 (Nat.le_of_lt hz); clear hB hG2 hR1; have hB := hB2; clear hB2) | (refine store_BoardF rfl _ _ rfl _ b rfl rfl i2x ?_; intro w9 ho9 hn9))
  exact bodyPost_ret (results_cell_t rfl rfl (loadVar_Board hn9 (by omega))) rfl ⟨b, d, rfl, hb, hd, below_only hB ho9 (Nat.le_refl _)⟩

end Go.Proofs.Ytegdnfmhhigjfaa

namespace Go.Proofs.Ytegdnfmhhigjfaa
open Go.RowKit

theorem own_base {w : World} {base base' e size n : Nat} {v : Value} {xs : List Value} (h : w.ownsRow base e size v n xs) (hb : base' ≤ base) : w.ownsRow base' e size v n xs := by
  refine ⟨h.1, ?_⟩
  rcases h.2 with h2 | ⟨g, cap, cur, e1, hg, r⟩
  · exact .inl h2
  · exact .inr ⟨g, cap, cur, e1, Nat.le_trans hb hg, r⟩
theorem own_made1 {w w1 : World} {o : Obj} {T size : Nat} (hW : (w.alloc o).alloc (.cells #[] T) = w1) : w1.ownsRow (w.heap.size + 1) T size (.slice (some ⟨w.heap.size + 1, 0, none⟩) 0 0) 0 [] := by
  subst hW
  have h := World.ownsRow_made (w.alloc o) #[] 0 (base := w.heap.size + 1) (e := T) (size := size) (by simp) (Nat.zero_le _) (by simp)
  simpa using h
theorem own_at {w w1 : World} {o : Obj} {base e size n : Nat} {v : Value} {xs : List Value} (hW : w.alloc o = w1) (h : w.ownsRow base e size v n xs) : w1.ownsRow base e size v n xs := hW ▸ h.alloc o
theorem below_only' {w a a' : World} {B0 B : Nat} (h : Below B0 w a) (k : Only B a a') (hB : B0 ≤ B) : Below B0 w a' :=
  h.trans ⟨k.os, k.tape, k.output, Nat.le_of_eq k.size.symm, fun i hi => k.block i (by omega)⟩
theorem own_made0 {w w1 : World} {T size base : Nat} (hW : w.alloc (.cells #[] T) = w1) (hb : base ≤ w.heap.size) : w1.ownsRow base T size (.slice (some ⟨w.heap.size, 0, none⟩) 0 0) 0 [] := by
  subst hW
  exact World.ownsRow_made w #[] 0 hb (Nat.zero_le _) (by simp)
theorem own_draw {w : World} {base e size n : Nat} {v : Value} {xs : List Value} (h : w.ownsRow base e size v n xs) : w.drew.ownsRow base e size v n xs := h
theorem own_at_ne {w : World} {base e size n B : Nat} {v : Value} {xs : List Value} (h : w.ownsRow base e size v n xs) (hB : B < base) : v.ownBlock ≠ some B := by
  intro hk
  have := (h.lt B hk).1
  omega
theorem two_cells {wr : World} {T : TypeId} {x y : Value} : ∀ (j : Nat) (u : Value), ([x, y] : List Value)[j]? = some u → (wr.alloc (.cells #[x, y] T)).cell? ((⟨wr.heap.size, 0, none⟩ : Addr).add j) = some u := by
  intro j u hj
  have hn := Has.new' (w := wr) (cs := #[x, y]) (T := T) (n := 2) rfl
  rw [Addr.add_lit]
  rcases (by omega : j = 0 ∨ j = 1 ∨ 2 ≤ j) with rfl | rfl | h
  · simp at hj; subst hj; exact hn.1 0 (by omega)
  · simp at hj; subst hj; exact hn.1 1 (by omega)
  · rw [List.getElem?_eq_none (by simpa using h)] at hj; cases hj
theorem one_cell {wr : World} {T : TypeId} {x : Value} : ∀ (j : Nat) (u : Value), ([x] : List Value)[j]? = some u → (wr.alloc (.cells #[x] T)).cell? ((⟨wr.heap.size, 0, none⟩ : Addr).add j) = some u := by
  intro j u hj
  have hn := Has.new' (w := wr) (cs := #[x]) (T := T) (n := 1) rfl
  rw [Addr.add_lit]
  rcases (by omega : j = 0 ∨ 1 ≤ j) with rfl | h
  · simp at hj; subst hj; exact hn.1 0 (by omega)
  · rw [List.getElem?_eq_none (by simpa using h)] at hj; cases hj

end Go.Proofs.Ytegdnfmhhigjfaa

namespace Go.Proofs.Ytegdnfmhhigjfaa
open Go.RowKit

def ints (l : List Nat) : List Value := l.map fun (k : Nat) => .int .i64 (k : Int)
theorem ints_snoc (l : List Nat) (k : Nat) : ints (l ++ [k]) = ints l ++ [.int .i64 (k : Int)] := by simp [ints]
/-- The moves among the first n directions. -/
def mvL (b : Nat → Int) (n : Nat) : List Nat := (List.range n).filter fun d => !eqB (slB b d) b
theorem mvL_yes {b : Nat → Int} {n : Nat} (h : eqB (slB b n) b = false) : mvL b (n + 1) = mvL b n ++ [n] := by
  unfold mvL
  rw [List.range_succ, List.filter_append]
  simp [h]
theorem mvL_no {b : Nat → Int} {n : Nat} (h : eqB (slB b n) b = true) : mvL b (n + 1) = mvL b n := by
  unfold mvL
  rw [List.range_succ, List.filter_append]
  simp [h]
theorem mvL_len (b : Nat → Int) (n : Nat) : (mvL b n).length ≤ n := by
  have := List.length_filter_le (fun d => !eqB (slB b d) b) (List.range n)
  simpa [mvL] using this

def fI (l : List Nat) : Nat → Value := fun o => .int .i64 ((l.getD o 0 : Nat) : Int)
theorem ints_sl {w : World} {base e : Nat} {v : Value} {l : List Nat} (h : w.ownsRow base e 1 v l.length (ints l)) : ∃ A cap, v = .slice A l.length cap ∧ Sl w base A l.length (fI l) := by
  obtain ⟨A, cap, rfl, _, hS⟩ := own_sl h
  rw [Nat.mul_one] at hS
  exact ⟨A, cap, rfl, hS.congr fun o ho => by simp [ints, fI, ho]⟩
def mvO (b : Nat → Int) : List Nat := if bdB b = true then mvL b 4 else []
theorem mvO_len (b : Nat → Int) : (mvO b).length ≤ 4 := by
  have := mvL_len b 4
  unfold mvO; split
  · exact this
  · simp
def ovB (b : Nat → Int) : Bool := (mvL b 4).isEmpty
theorem ovB_len (b : Nat → Int) : (((mvL b 4).length : Int) == 0) = ovB b := by
  unfold ovB
  cases mvL b 4 with
  | nil => rfl
  | cons x l => simp; omega

end Go.Proofs.Ytegdnfmhhigjfaa

namespace Go.Proofs.Ytegdnfmhhigjfaa
open Go.RowKit

set_option maxHeartbeats 8000000 in
set_option maxRecDepth 100000 in
theorem moves_own (b : Nat → Int) (hb : In17 b 16) (w : World) : Calls Try.prog 81 #[.agg #[.int .i64 (b 0), .int .i64 (b 1), .int .i64 (b 2), .int .i64 (b 3), .int .i64 (b 4), .int .i64 (b 5), .int .i64 (b 6), .int .i64 (b 7), .int .i64 (b 8), .int .i64 (b 9), .int .i64 (b 10), .int .i64 (b 11), .int .i64 (b 12), .int .i64 (b 13), .int .i64 (b 14), .int .i64 (b 15)]] w fun e w' => ∃ v, e = .returned v ∧ w'.ownsRow w.heap.size 3 1 v (mvL b 4).length (ints (mvL b 4)) ∧ Below w.heap.size w w' := by
  obtain ⟨i0, hi0, hz0, hz1, hz2⟩ := info_parts info_int3
  have HB := hide hb
  clear hb
  go_enter Try.func81, Try.ntmps81
  go_upto_region 2 with (fail)
  go_wp2_with fail
  generalize hW : (w.alloc _).alloc _ = w1
  have O0 := own_made1 (size := 1) hW
  have hB : Below w.heap.size w w1 := by (rw [← hW]; exact (by repeat (first | (with_reducible exact Below.refl _ _) | (with_reducible assumption) | (with_reducible refine below_go ?_ (by with_reducible assumption)) | (with_reducible refine below_new ?_ _) | ((with_reducible refine below_put ?_ ?_ _); rotate_left; (dsimp only; omega)) | (with_reducible refine Below.drew ?_) | (with_reducible refine below_dn ?_ _))))
  have j0 : Has w1 w.heap.size 16 (fun o => .int .i64 (b o)) := by (rw [← hW]; repeat (first | (refine Has.new ?_ rfl; simp; done) | refine Has.alloc ?_ _))
  clear hW
  go_loopw [3, 9] (fun v i wr => ∃ d : Nat, d ≤ 4 ∧ i = .int .i64 d ∧ wr.ownsRow (w.heap.size + 1) 3 1 v (mvL b d).length (ints (mvL b d)) ∧ Below w.heap.size w wr ∧ Has wr w.heap.size 16 (fun o => .int .i64 (b o))) (fun _ i _ => 4 - (intOf i).toNat)
  case atStart => exact ⟨0, by omega, rfl, O0, hB, j0⟩
  case round =>
    clear hB j0 O0
    rename_i v3 _
    obtain ⟨d, hd, rfl, hown, hB, j0⟩ := hrel
    by_cases h4 : d = 4
    · subst h4
      go_wp2
      go_ret
      exact ⟨_, rfl, own_base hown (Nat.le_succ _), hB⟩
    · have hlt : d < 4 := by omega
      have hlen := mvL_len b d
      have ci0 := j0.1; have fi0 := j0.2.1; have zi0 := j0.2.2
      go_upto_region 6 with (first | (refine load_Board rfl _ rfl _ _ rfl (by repeat (first | (with_reducible assumption) | (with_reducible apply Has.set) | ((with_reducible apply Has.other); (case hne => (dsimp only; omega))) | (with_reducible apply Has.alloc) | (with_reducible apply Has.drew) | (with_reducible apply Has.drewN))) (by omega) ?_) | (go_at_call 74; (with_reducible refine (slide_any _ HB.out _ hlt _).mono ?_); rintro e w2 ⟨rfl, hb2⟩; have hown := own_call hown hb2; have hB' : Below w.heap.size w w2 := below_go (by repeat (first | (with_reducible exact Below.refl _ _) | (with_reducible assumption) | (with_reducible refine below_go ?_ (by with_reducible assumption)) | (with_reducible refine below_new ?_ _) | ((with_reducible refine below_put ?_ ?_ _); rotate_left; (dsimp only; omega)) | (with_reducible refine Below.drew ?_) | (with_reducible refine below_dn ?_ _))) hb2; have j0' : Has w2 (w.heap.size) 16 _ := Has.call (by repeat (first | (with_reducible assumption) | (with_reducible apply Has.set) | ((with_reducible apply Has.other); (case hne => (dsimp only; omega))) | (with_reducible apply Has.alloc) | (with_reducible apply Has.drew) | (with_reducible apply Has.drewN))) hb2; clear hB hb2; have hB := hB'; clear hB'; (try clear fj0); (try clear zj0); (try clear cj0); clear j0; have j0 := j0'; clear j0'; have cj0 := j0.1; have fj0 := j0.2.1; have zj0 := j0.2.2))
      have hz3 : w.heap.size < w2.heap.size := zj0
      generalize hW : (World.alloc w2 _) = w1
      have hB' : Below w.heap.size w w1 := by (rw [← hW]; exact (by repeat (first | (with_reducible exact Below.refl _ _) | (with_reducible assumption) | (with_reducible refine below_go ?_ (by with_reducible assumption)) | (with_reducible refine below_new ?_ _) | ((with_reducible refine below_put ?_ ?_ _); rotate_left; (dsimp only; omega)) | (with_reducible refine Below.drew ?_) | (with_reducible refine below_dn ?_ _))))
      have j0' := Has.at hW (B := w.heap.size) (n := 16) (by repeat (first | (with_reducible assumption) | (with_reducible apply Has.set) | ((with_reducible apply Has.other); (case hne => (dsimp only; omega))) | (with_reducible apply Has.alloc) | (with_reducible apply Has.drew) | (with_reducible apply Has.drewN)))
      have k0 := Has.at hW (n := 16) (Has.new' rfl)
      try simp only [World.size_alloc] at k0
      have hown' := own_at hW hown; clear hown; have hown := hown'; clear hown'
      clear hW; clear hB; have hB := hB'; clear hB'; (try clear fj0); (try clear zj0); (try clear cj0); clear j0; have j0 := j0'; clear j0'; have cj0 := j0.1; have fj0 := j0.2.1; have zj0 := j0.2.2; have ck0 := k0.1; have fk0 := k0.2.1; have zk0 := k0.2.2
      generalize hS : w2.heap.size = B4 at *
      clear hS
      have k0 := k0.congr (d := fun o => .int .i64 (slB b d o)) (fun o ho => by rcases p16 ho with rfl | rfl | rfl | rfl | rfl | rfl | rfl | rfl | rfl | rfl | rfl | rfl | rfl | rfl | rfl | rfl <;> rfl)
      cases he : eqB (slB b d) b
      · have hq : ∀ w, (binOp .neq 27 (.agg #[.int .i64 ((slB b d) 0), .int .i64 ((slB b d) 1), .int .i64 ((slB b d) 2), .int .i64 ((slB b d) 3), .int .i64 ((slB b d) 4), .int .i64 ((slB b d) 5), .int .i64 ((slB b d) 6), .int .i64 ((slB b d) 7), .int .i64 ((slB b d) 8), .int .i64 ((slB b d) 9), .int .i64 ((slB b d) 10), .int .i64 ((slB b d) 11), .int .i64 ((slB b d) 12), .int .i64 ((slB b d) 13), .int .i64 ((slB b d) 14), .int .i64 ((slB b d) 15)]) (.agg #[.int .i64 (b 0), .int .i64 (b 1), .int .i64 (b 2), .int .i64 (b 3), .int .i64 (b 4), .int .i64 (b 5), .int .i64 (b 6), .int .i64 (b 7), .int .i64 (b 8), .int .i64 (b 9), .int .i64 (b 10), .int .i64 (b 11), .int .i64 (b 12), .int .i64 (b 13), .int .i64 (b 14), .int .i64 (b 15)])).run Try.prog w = .ok (.bool true) w := fun w => by rw [run_neq_Board, he]; rfl
        have HY := hide (mvL_yes he)
        clear he
        go_wp2_with (first | (refine load_Board rfl _ rfl _ _ rfl (by repeat (first | (with_reducible assumption) | (with_reducible apply Has.set) | ((with_reducible apply Has.other); (case hne => (dsimp only; omega))) | (with_reducible apply Has.alloc) | (with_reducible apply Has.drew) | (with_reducible apply Has.drewN))) (by omega) ?_) | (at_builtin; refine wpList_append_own _ rfl (.tmp 22) (.tmp 24) 41 rfl (w.heap.size + 1) 3 i0 (.int .i64 0) 1 8 Try.underlying41 hi0 hz0 hz1 hz2 rfl (by decide) _ (mvL b d).length (ints (mvL b d)) rfl (hown.alloc _) ⟨w1.heap.size, 0, none⟩ 1 1 [.int .i64 (d : Int)] rfl rfl ?c1 ?c2 ?c3 ?c4 ?c5 ?_))
        case c2 => first | rfl | (intro u hu; simp at hu; rcases hu with rfl; rfl)
        case c3 => unfold maxLen; omega
        case c4 => omega
        case c5 => have := hB.size; have := j0.2.2; simp; omega
        intro v' w3 hown' hgrow _
        have hB1 : Below w.heap.size w w3 := (below_new hB _).grown hgrow (by have := hB.size; simp; omega) (fun q hq => Nat.le_of_succ_le (hown.lt q hq).1)
        have j1 := (j0.alloc _).grown hgrow (own_at_ne hown (Nat.lt_succ_self _))
        rw [← ints_snoc, ← HY.out] at hown'
        have hl : (mvL b d).length + 1 = (mvL b (d + 1)).length := by rw [HY.out]; simp
        rw [hl] at hown'
        clear hown hB hgrow j0 k0 hl
        go_wp2
        go_roundw
        case rel => exact ⟨d + 1, by omega, by go_num, hown', hB1, j1⟩
        case measure => simp [intOf]; omega
      · have hq : ∀ w, (binOp .neq 27 (.agg #[.int .i64 ((slB b d) 0), .int .i64 ((slB b d) 1), .int .i64 ((slB b d) 2), .int .i64 ((slB b d) 3), .int .i64 ((slB b d) 4), .int .i64 ((slB b d) 5), .int .i64 ((slB b d) 6), .int .i64 ((slB b d) 7), .int .i64 ((slB b d) 8), .int .i64 ((slB b d) 9), .int .i64 ((slB b d) 10), .int .i64 ((slB b d) 11), .int .i64 ((slB b d) 12), .int .i64 ((slB b d) 13), .int .i64 ((slB b d) 14), .int .i64 ((slB b d) 15)]) (.agg #[.int .i64 (b 0), .int .i64 (b 1), .int .i64 (b 2), .int .i64 (b 3), .int .i64 (b 4), .int .i64 (b 5), .int .i64 (b 6), .int .i64 (b 7), .int .i64 (b 8), .int .i64 (b 9), .int .i64 (b 10), .int .i64 (b 11), .int .i64 (b 12), .int .i64 (b 13), .int .i64 (b 14), .int .i64 (b 15)])).run Try.prog w = .ok (.bool false) w := fun w => by rw [run_neq_Board, he]; rfl
        have HY := hide (mvL_no he)
        clear he
        go_wp2_with (first | (refine load_Board rfl _ rfl _ _ rfl (by repeat (first | (with_reducible assumption) | (with_reducible apply Has.set) | ((with_reducible apply Has.other); (case hne => (dsimp only; omega))) | (with_reducible apply Has.alloc) | (with_reducible apply Has.drew) | (with_reducible apply Has.drewN))) (by omega) ?_))
        go_roundw
        case rel => exact ⟨d + 1, by omega, by go_num, by rw [HY.out]; exact hown, hB, j0⟩
        case measure => simp [intOf]; omega

set_option maxHeartbeats 4000000 in
theorem isOver_any (b : Nat → Int) (hb : In17 b 16) (w : World) : Calls Try.prog 86 #[.agg #[.int .i64 (b 0), .int .i64 (b 1), .int .i64 (b 2), .int .i64 (b 3), .int .i64 (b 4), .int .i64 (b 5), .int .i64 (b 6), .int .i64 (b 7), .int .i64 (b 8), .int .i64 (b 9), .int .i64 (b 10), .int .i64 (b 11), .int .i64 (b 12), .int .i64 (b 13), .int .i64 (b 14), .int .i64 (b 15)]] w fun e w' => e = .returned (.bool (ovB b)) ∧ Below w.heap.size w w' := by
  have ho := ovB_len b
  have HB := hide hb
  clear hb
  go_enter Try.func86, Try.ntmps86
  go_upto_region 1 with (fail)
  generalize hW : w.alloc _ = w1
  have hB : Below w.heap.size w w1 := by (rw [← hW]; exact (by repeat (first | (with_reducible exact Below.refl _ _) | (with_reducible assumption) | (with_reducible refine below_go ?_ (by with_reducible assumption)) | (with_reducible refine below_new ?_ _) | ((with_reducible refine below_put ?_ ?_ _); rotate_left; (dsimp only; omega)) | (with_reducible refine Below.drew ?_) | (with_reducible refine below_dn ?_ _))))
  have hsz : Hid (w1.heap.size = w.heap.size + 1) := hide (by rw [← hW]; simp)
  have i0 : Has w1 (w.heap.size) 16 (fun o => .int .i64 (b o)) := by (rw [← hW]; repeat (first | (refine Has.new ?_ rfl; simp; done) | refine Has.alloc ?_ _))
  have ci0 := i0.1; have fi0 := i0.2.1; have zi0 := i0.2.2
  clear hW
  go_wp2_with (first | (refine load_Board rfl _ rfl _ _ rfl (by repeat (first | (with_reducible assumption) | (with_reducible apply Has.set) | ((with_reducible apply Has.other); (case hne => (dsimp only; omega))) | (with_reducible apply Has.alloc) | (with_reducible apply Has.drew) | (with_reducible apply Has.drewN))) (by omega) ?_) | (go_at_call 81; (with_reducible refine (moves_own _ HB.out _).mono ?_); rintro e w2 ⟨v, rfl, hown, hb2⟩; obtain ⟨A, cap, rfl, hS⟩ := ints_sl hown; clear hown; have hB' : Below w.heap.size w w2 := below_go (by repeat (first | (with_reducible exact Below.refl _ _) | (with_reducible assumption) | (with_reducible refine below_go ?_ (by with_reducible assumption)) | (with_reducible refine below_new ?_ _) | ((with_reducible refine below_put ?_ ?_ _); rotate_left; (dsimp only; omega)) | (with_reducible refine Below.drew ?_) | (with_reducible refine below_dn ?_ _))) hb2; have i0' : Has w2 (w.heap.size) 16 _ := Has.call (by repeat (first | (with_reducible assumption) | (with_reducible apply Has.set) | ((with_reducible apply Has.other); (case hne => (dsimp only; omega))) | (with_reducible apply Has.alloc) | (with_reducible apply Has.drew) | (with_reducible apply Has.drewN))) hb2; clear hB hb2; have hB := hB'; clear hB'; (try clear fi0); (try clear zi0); (try clear ci0); clear i0; have i0 := i0'; clear i0'; have ci0 := i0.1; have fi0 := i0.2.1; have zi0 := i0.2.2))
  go_ret
  exact ⟨rfl, (by repeat (first | (with_reducible exact Below.refl _ _) | (with_reducible assumption) | (with_reducible refine below_go ?_ (by with_reducible assumption)) | (with_reducible refine below_new ?_ _) | ((with_reducible refine below_put ?_ ?_ _); rotate_left; (dsimp only; omega)) | (with_reducible refine Below.drew ?_) | (with_reducible refine below_dn ?_ _)))⟩

set_option maxHeartbeats 4000000 in
set_option maxRecDepth 100000 in
theorem movesOf_own (b : Nat → Int) (w : World) : Calls Try.prog 25 #[.agg #[.int .i64 (b 0), .int .i64 (b 1), .int .i64 (b 2), .int .i64 (b 3), .int .i64 (b 4), .int .i64 (b 5), .int .i64 (b 6), .int .i64 (b 7), .int .i64 (b 8), .int .i64 (b 9), .int .i64 (b 10), .int .i64 (b 11), .int .i64 (b 12), .int .i64 (b 13), .int .i64 (b 14), .int .i64 (b 15)]] w fun e w' => ∃ A cap, e = .returned (.tuple #[.slice A (mvO b).length cap, .bool (bdB b)]) ∧ Sl w' w.heap.size A (mvO b).length (fI (mvO b)) ∧ Below w.heap.size w w' := by
  cases hb : bdB b
  · have e0 : mvO b = [] := by simp [mvO, hb]
    rw [e0]
    clear e0
    go_enter Try.func25, Try.ntmps25
    go_upto_region 1 with (fail)
    generalize hW : w.alloc _ = w1
    have hB : Below w.heap.size w w1 := by (rw [← hW]; exact (by repeat (first | (with_reducible exact Below.refl _ _) | (with_reducible assumption) | (with_reducible refine below_go ?_ (by with_reducible assumption)) | (with_reducible refine below_new ?_ _) | ((with_reducible refine below_put ?_ ?_ _); rotate_left; (dsimp only; omega)) | (with_reducible refine Below.drew ?_) | (with_reducible refine below_dn ?_ _))))
    have hsz : Hid (w1.heap.size = w.heap.size + 1) := hide (by rw [← hW]; simp)
    have i0 : Has w1 (w.heap.size) 16 (fun o => .int .i64 (b o)) := by (rw [← hW]; repeat (first | (refine Has.new ?_ rfl; simp; done) | refine Has.alloc ?_ _))
    have ci0 := i0.1; have fi0 := i0.2.1; have zi0 := i0.2.2
    clear hW
    go_wp2_with (first | (go_at_call 27; (with_reducible refine (isBoard_any _ _).mono ?_); rintro e w2 ⟨rfl, hb2⟩; have hB' : Below w.heap.size w w2 := below_go (by repeat (first | (with_reducible exact Below.refl _ _) | (with_reducible assumption) | (with_reducible refine below_go ?_ (by with_reducible assumption)) | (with_reducible refine below_new ?_ _) | ((with_reducible refine below_put ?_ ?_ _); rotate_left; (dsimp only; omega)) | (with_reducible refine Below.drew ?_) | (with_reducible refine below_dn ?_ _))) hb2; have i0' : Has w2 (w.heap.size) 16 _ := Has.call (by repeat (first | (with_reducible assumption) | (with_reducible apply Has.set) | ((with_reducible apply Has.other); (case hne => (dsimp only; omega))) | (with_reducible apply Has.alloc) | (with_reducible apply Has.drew) | (with_reducible apply Has.drewN))) hb2; clear hB hb2; have hB := hB'; clear hB'; (try clear fi0); (try clear zi0); (try clear ci0); clear i0; have i0 := i0'; clear i0'; have ci0 := i0.1; have fi0 := i0.2.1; have zi0 := i0.2.2) | (refine load_Board rfl _ rfl _ _ rfl (by repeat (first | (with_reducible assumption) | (with_reducible apply Has.set) | ((with_reducible apply Has.other); (case hne => (dsimp only; omega))) | (with_reducible apply Has.alloc) | (with_reducible apply Has.drew) | (with_reducible apply Has.drewN))) (by omega) ?_))
    go_ret2
    exact ⟨_, _, rfl, sl_zero _ _ _ _, (by repeat (first | (with_reducible exact Below.refl _ _) | (with_reducible assumption) | (with_reducible refine below_go ?_ (by with_reducible assumption)) | (with_reducible refine below_new ?_ _) | ((with_reducible refine below_put ?_ ?_ _); rotate_left; (dsimp only; omega)) | (with_reducible refine Below.drew ?_) | (with_reducible refine below_dn ?_ _)))⟩
  · have HB := hide (bdB_in hb)
    have e0 := hide (show mvO b = mvL b 4 from if_pos hb)
    rw [e0.out]
    go_enter Try.func25, Try.ntmps25
    go_upto_region 1 with (fail)
    generalize hW : w.alloc _ = w1
    have hB : Below w.heap.size w w1 := by (rw [← hW]; exact (by repeat (first | (with_reducible exact Below.refl _ _) | (with_reducible assumption) | (with_reducible refine below_go ?_ (by with_reducible assumption)) | (with_reducible refine below_new ?_ _) | ((with_reducible refine below_put ?_ ?_ _); rotate_left; (dsimp only; omega)) | (with_reducible refine Below.drew ?_) | (with_reducible refine below_dn ?_ _))))
    have hsz : Hid (w1.heap.size = w.heap.size + 1) := hide (by rw [← hW]; simp)
    have i0 : Has w1 (w.heap.size) 16 (fun o => .int .i64 (b o)) := by (rw [← hW]; repeat (first | (refine Has.new ?_ rfl; simp; done) | refine Has.alloc ?_ _))
    have ci0 := i0.1; have fi0 := i0.2.1; have zi0 := i0.2.2
    clear hW
    go_wp2_with (first | (go_at_call 27; (with_reducible refine (isBoard_any _ _).mono ?_); rintro e w2 ⟨rfl, hb2⟩; have hB' : Below w.heap.size w w2 := below_go (by repeat (first | (with_reducible exact Below.refl _ _) | (with_reducible assumption) | (with_reducible refine below_go ?_ (by with_reducible assumption)) | (with_reducible refine below_new ?_ _) | ((with_reducible refine below_put ?_ ?_ _); rotate_left; (dsimp only; omega)) | (with_reducible refine Below.drew ?_) | (with_reducible refine below_dn ?_ _))) hb2; have i0' : Has w2 (w.heap.size) 16 _ := Has.call (by repeat (first | (with_reducible assumption) | (with_reducible apply Has.set) | ((with_reducible apply Has.other); (case hne => (dsimp only; omega))) | (with_reducible apply Has.alloc) | (with_reducible apply Has.drew) | (with_reducible apply Has.drewN))) hb2; clear hB hb2; have hB := hB'; clear hB'; (try clear fi0); (try clear zi0); (try clear ci0); clear i0; have i0 := i0'; clear i0'; have ci0 := i0.1; have fi0 := i0.2.1; have zi0 := i0.2.2) | (refine load_Board rfl _ rfl _ _ rfl (by repeat (first | (with_reducible assumption) | (with_reducible apply Has.set) | ((with_reducible apply Has.other); (case hne => (dsimp only; omega))) | (with_reducible apply Has.alloc) | (with_reducible apply Has.drew) | (with_reducible apply Has.drewN))) (by omega) ?_) | (go_at_call 81; (with_reducible refine (moves_own _ HB.out _).mono ?_); rintro e w2 ⟨v, rfl, hown, hb2⟩; have hown := own_base hown (Nat.le_of_lt zi0); obtain ⟨A, cap, rfl, hS⟩ := ints_sl hown; clear hown; have hB' : Below w.heap.size w w2 := below_go (by repeat (first | (with_reducible exact Below.refl _ _) | (with_reducible assumption) | (with_reducible refine below_go ?_ (by with_reducible assumption)) | (with_reducible refine below_new ?_ _) | ((with_reducible refine below_put ?_ ?_ _); rotate_left; (dsimp only; omega)) | (with_reducible refine Below.drew ?_) | (with_reducible refine below_dn ?_ _))) hb2; have i0' : Has w2 (w.heap.size) 16 _ := Has.call (by repeat (first | (with_reducible assumption) | (with_reducible apply Has.set) | ((with_reducible apply Has.other); (case hne => (dsimp only; omega))) | (with_reducible apply Has.alloc) | (with_reducible apply Has.drew) | (with_reducible apply Has.drewN))) hb2; clear hB hb2; have hB := hB'; clear hB'; (try clear fi0); (try clear zi0); (try clear ci0); clear i0; have i0 := i0'; clear i0'; have ci0 := i0.1; have fi0 := i0.2.1; have zi0 := i0.2.2))
    go_ret2
    exact ⟨_, _, rfl, hS, (by repeat (first | (with_reducible exact Below.refl _ _) | (with_reducible assumption) | (with_reducible refine below_go ?_ (by with_reducible assumption)) | (with_reducible refine below_new ?_ _) | ((with_reducible refine below_put ?_ ?_ _); rotate_left; (dsimp only; omega)) | (with_reducible refine Below.drew ?_) | (with_reducible refine below_dn ?_ _)))⟩

set_option maxHeartbeats 4000000 in
set_option maxRecDepth 100000 in
theorem isOverX_any (b : Nat → Int) (w : World) : Calls Try.prog 29 #[.agg #[.int .i64 (b 0), .int .i64 (b 1), .int .i64 (b 2), .int .i64 (b 3), .int .i64 (b 4), .int .i64 (b 5), .int .i64 (b 6), .int .i64 (b 7), .int .i64 (b 8), .int .i64 (b 9), .int .i64 (b 10), .int .i64 (b 11), .int .i64 (b 12), .int .i64 (b 13), .int .i64 (b 14), .int .i64 (b 15)]] w fun e w' => e = .returned (.tuple #[.bool (bdB b && ovB b), .bool (bdB b)]) ∧ Below w.heap.size w w' := by
  cases hb : bdB b
  · simp only [Bool.false_and]
    go_enter Try.func29, Try.ntmps29
    go_upto_region 1 with (fail)
    generalize hW : w.alloc _ = w1
    have hB : Below w.heap.size w w1 := by (rw [← hW]; exact (by repeat (first | (with_reducible exact Below.refl _ _) | (with_reducible assumption) | (with_reducible refine below_go ?_ (by with_reducible assumption)) | (with_reducible refine below_new ?_ _) | ((with_reducible refine below_put ?_ ?_ _); rotate_left; (dsimp only; omega)) | (with_reducible refine Below.drew ?_) | (with_reducible refine below_dn ?_ _))))
    have hsz : Hid (w1.heap.size = w.heap.size + 1) := hide (by rw [← hW]; simp)
    have i0 : Has w1 (w.heap.size) 16 (fun o => .int .i64 (b o)) := by (rw [← hW]; repeat (first | (refine Has.new ?_ rfl; simp; done) | refine Has.alloc ?_ _))
    have ci0 := i0.1; have fi0 := i0.2.1; have zi0 := i0.2.2
    clear hW
    go_wp2_with (first | (go_at_call 27; (with_reducible refine (isBoard_any _ _).mono ?_); rintro e w2 ⟨rfl, hb2⟩; have hB' : Below w.heap.size w w2 := below_go (by repeat (first | (with_reducible exact Below.refl _ _) | (with_reducible assumption) | (with_reducible refine below_go ?_ (by with_reducible assumption)) | (with_reducible refine below_new ?_ _) | ((with_reducible refine below_put ?_ ?_ _); rotate_left; (dsimp only; omega)) | (with_reducible refine Below.drew ?_) | (with_reducible refine below_dn ?_ _))) hb2; have i0' : Has w2 (w.heap.size) 16 _ := Has.call (by repeat (first | (with_reducible assumption) | (with_reducible apply Has.set) | ((with_reducible apply Has.other); (case hne => (dsimp only; omega))) | (with_reducible apply Has.alloc) | (with_reducible apply Has.drew) | (with_reducible apply Has.drewN))) hb2; clear hB hb2; have hB := hB'; clear hB'; (try clear fi0); (try clear zi0); (try clear ci0); clear i0; have i0 := i0'; clear i0'; have ci0 := i0.1; have fi0 := i0.2.1; have zi0 := i0.2.2) | (refine load_Board rfl _ rfl _ _ rfl (by repeat (first | (with_reducible assumption) | (with_reducible apply Has.set) | ((with_reducible apply Has.other); (case hne => (dsimp only; omega))) | (with_reducible apply Has.alloc) | (with_reducible apply Has.drew) | (with_reducible apply Has.drewN))) (by omega) ?_))
    go_ret2
    exact ⟨rfl, (by repeat (first | (with_reducible exact Below.refl _ _) | (with_reducible assumption) | (with_reducible refine below_go ?_ (by with_reducible assumption)) | (with_reducible refine below_new ?_ _) | ((with_reducible refine below_put ?_ ?_ _); rotate_left; (dsimp only; omega)) | (with_reducible refine Below.drew ?_) | (with_reducible refine below_dn ?_ _)))⟩
  · have HB := hide (bdB_in hb)
    simp only [Bool.true_and]
    go_enter Try.func29, Try.ntmps29
    go_upto_region 1 with (fail)
    generalize hW : w.alloc _ = w1
    have hB : Below w.heap.size w w1 := by (rw [← hW]; exact (by repeat (first | (with_reducible exact Below.refl _ _) | (with_reducible assumption) | (with_reducible refine below_go ?_ (by with_reducible assumption)) | (with_reducible refine below_new ?_ _) | ((with_reducible refine below_put ?_ ?_ _); rotate_left; (dsimp only; omega)) | (with_reducible refine Below.drew ?_) | (with_reducible refine below_dn ?_ _))))
    have hsz : Hid (w1.heap.size = w.heap.size + 1) := hide (by rw [← hW]; simp)
    have i0 : Has w1 (w.heap.size) 16 (fun o => .int .i64 (b o)) := by (rw [← hW]; repeat (first | (refine Has.new ?_ rfl; simp; done) | refine Has.alloc ?_ _))
    have ci0 := i0.1; have fi0 := i0.2.1; have zi0 := i0.2.2
    clear hW
    go_wp2_with (first | (go_at_call 27; (with_reducible refine (isBoard_any _ _).mono ?_); rintro e w2 ⟨rfl, hb2⟩; have hB' : Below w.heap.size w w2 := below_go (by repeat (first | (with_reducible exact Below.refl _ _) | (with_reducible assumption) | (with_reducible refine below_go ?_ (by with_reducible assumption)) | (with_reducible refine below_new ?_ _) | ((with_reducible refine below_put ?_ ?_ _); rotate_left; (dsimp only; omega)) | (with_reducible refine Below.drew ?_) | (with_reducible refine below_dn ?_ _))) hb2; have i0' : Has w2 (w.heap.size) 16 _ := Has.call (by repeat (first | (with_reducible assumption) | (with_reducible apply Has.set) | ((with_reducible apply Has.other); (case hne => (dsimp only; omega))) | (with_reducible apply Has.alloc) | (with_reducible apply Has.drew) | (with_reducible apply Has.drewN))) hb2; clear hB hb2; have hB := hB'; clear hB'; (try clear fi0); (try clear zi0); (try clear ci0); clear i0; have i0 := i0'; clear i0'; have ci0 := i0.1; have fi0 := i0.2.1; have zi0 := i0.2.2) | (go_at_call 86; (with_reducible refine (isOver_any _ HB.out _).mono ?_); rintro e w2 ⟨rfl, hb2⟩; have hB' : Below w.heap.size w w2 := below_go (by repeat (first | (with_reducible exact Below.refl _ _) | (with_reducible assumption) | (with_reducible refine below_go ?_ (by with_reducible assumption)) | (with_reducible refine below_new ?_ _) | ((with_reducible refine below_put ?_ ?_ _); rotate_left; (dsimp only; omega)) | (with_reducible refine Below.drew ?_) | (with_reducible refine below_dn ?_ _))) hb2; have i0' : Has w2 (w.heap.size) 16 _ := Has.call (by repeat (first | (with_reducible assumption) | (with_reducible apply Has.set) | ((with_reducible apply Has.other); (case hne => (dsimp only; omega))) | (with_reducible apply Has.alloc) | (with_reducible apply Has.drew) | (with_reducible apply Has.drewN))) hb2; clear hB hb2; have hB := hB'; clear hB'; (try clear fi0); (try clear zi0); (try clear ci0); clear i0; have i0 := i0'; clear i0'; have ci0 := i0.1; have fi0 := i0.2.1; have zi0 := i0.2.2) | (refine load_Board rfl _ rfl _ _ rfl (by repeat (first | (with_reducible assumption) | (with_reducible apply Has.set) | ((with_reducible apply Has.other); (case hne => (dsimp only; omega))) | (with_reducible apply Has.alloc) | (with_reducible apply Has.drew) | (with_reducible apply Has.drewN))) (by omega) ?_))
    go_ret2
    exact ⟨rfl, (by repeat (first | (with_reducible exact Below.refl _ _) | (with_reducible assumption) | (with_reducible refine below_go ?_ (by with_reducible assumption)) | (with_reducible refine below_new ?_ _) | ((with_reducible refine below_put ?_ ?_ _); rotate_left; (dsimp only; omega)) | (with_reducible refine Below.drew ?_) | (with_reducible refine below_dn ?_ _)))⟩

end Go.Proofs.Ytegdnfmhhigjfaa

/-
  Contracts: all moves of a board, the reference's; MovesOf, IsOver.
-/
namespace Go.Proofs.Ytegdnfmhhigjfaa
open Go.RowKit

set_option maxHeartbeats 8000000 in
set_option maxRecDepth 100000 in
theorem l2Moves_own (b : Nat → Int) (hb : In17 b 16) (w : World) : Calls Try.prog 82 #[.agg #[.int .i64 (b 0), .int .i64 (b 1), .int .i64 (b 2), .int .i64 (b 3), .int .i64 (b 4), .int .i64 (b 5), .int .i64 (b 6), .int .i64 (b 7), .int .i64 (b 8), .int .i64 (b 9), .int .i64 (b 10), .int .i64 (b 11), .int .i64 (b 12), .int .i64 (b 13), .int .i64 (b 14), .int .i64 (b 15)]] w fun e w' => ∃ v, e = .returned v ∧ w'.ownsRow w.heap.size 3 1 v (mvL b 4).length (ints (mvL b 4)) ∧ Below w.heap.size w w' := by
  obtain ⟨i0, hi0, hz0, hz1, hz2⟩ := info_parts info_int3
  have HB := hide hb
  clear hb
  go_enter Try.func82, Try.ntmps82
  go_upto_region 2 with (fail)
  go_wp2_with fail
  generalize hW : (w.alloc _).alloc _ = w1
  have O0 := own_made1 (size := 1) hW
  have hB : Below w.heap.size w w1 := by (rw [← hW]; exact (by repeat (first | (with_reducible exact Below.refl _ _) | (with_reducible assumption) | (with_reducible refine below_go ?_ (by with_reducible assumption)) | (with_reducible refine below_new ?_ _) | ((with_reducible refine below_put ?_ ?_ _); rotate_left; (dsimp only; omega)) | (with_reducible refine Below.drew ?_) | (with_reducible refine below_dn ?_ _))))
  have j0 : Has w1 w.heap.size 16 (fun o => .int .i64 (b o)) := by (rw [← hW]; repeat (first | (refine Has.new ?_ rfl; simp; done) | refine Has.alloc ?_ _))
  clear hW
  go_loopw [3, 4] (fun v i wr => ∃ d : Nat, d ≤ 4 ∧ i = .int .i64 d ∧ wr.ownsRow (w.heap.size + 1) 3 1 v (mvL b d).length (ints (mvL b d)) ∧ Below w.heap.size w wr ∧ Has wr w.heap.size 16 (fun o => .int .i64 (b o))) (fun _ i _ => 4 - (intOf i).toNat)
  case atStart => exact ⟨0, by omega, rfl, O0, hB, j0⟩
  case round =>
    clear hB j0 O0
    rename_i v3 _
    obtain ⟨d, hd, rfl, hown, hB, j0⟩ := hrel
    by_cases h4 : d = 4
    · subst h4
      go_wp2
      go_ret
      exact ⟨_, rfl, own_base hown (Nat.le_succ _), hB⟩
    · have hlt : d < 4 := by omega
      have hlen := mvL_len b d
      have ci0 := j0.1; have fi0 := j0.2.1; have zi0 := j0.2.2
      go_upto_region 6 with (first | (refine load_Board rfl _ rfl _ _ rfl (by repeat (first | (with_reducible assumption) | (with_reducible apply Has.set) | ((with_reducible apply Has.other); (case hne => (dsimp only; omega))) | (with_reducible apply Has.alloc) | (with_reducible apply Has.drew) | (with_reducible apply Has.drewN))) (by omega) ?_) | (go_at_call 80; (with_reducible refine (l2Slide_any _ HB.out _ hlt _).mono ?_); rintro e w2 ⟨rfl, hb2⟩; have hown := own_call hown hb2; have hB' : Below w.heap.size w w2 := below_go (by repeat (first | (with_reducible exact Below.refl _ _) | (with_reducible assumption) | (with_reducible refine below_go ?_ (by with_reducible assumption)) | (with_reducible refine below_new ?_ _) | ((with_reducible refine below_put ?_ ?_ _); rotate_left; (dsimp only; omega)) | (with_reducible refine Below.drew ?_) | (with_reducible refine below_dn ?_ _))) hb2; have j0' : Has w2 (w.heap.size) 16 _ := Has.call (by repeat (first | (with_reducible assumption) | (with_reducible apply Has.set) | ((with_reducible apply Has.other); (case hne => (dsimp only; omega))) | (with_reducible apply Has.alloc) | (with_reducible apply Has.drew) | (with_reducible apply Has.drewN))) hb2; clear hB hb2; have hB := hB'; clear hB'; (try clear fj0); (try clear zj0); (try clear cj0); clear j0; have j0 := j0'; clear j0'; have cj0 := j0.1; have fj0 := j0.2.1; have zj0 := j0.2.2))
      have hz3 : w.heap.size < w2.heap.size := zj0
      generalize hW : (World.alloc w2 _) = w1
      have hB' : Below w.heap.size w w1 := by (rw [← hW]; exact (by repeat (first | (with_reducible exact Below.refl _ _) | (with_reducible assumption) | (with_reducible refine below_go ?_ (by with_reducible assumption)) | (with_reducible refine below_new ?_ _) | ((with_reducible refine below_put ?_ ?_ _); rotate_left; (dsimp only; omega)) | (with_reducible refine Below.drew ?_) | (with_reducible refine below_dn ?_ _))))
      have j0' := Has.at hW (B := w.heap.size) (n := 16) (by repeat (first | (with_reducible assumption) | (with_reducible apply Has.set) | ((with_reducible apply Has.other); (case hne => (dsimp only; omega))) | (with_reducible apply Has.alloc) | (with_reducible apply Has.drew) | (with_reducible apply Has.drewN)))
      have k0 := Has.at hW (n := 16) (Has.new' rfl)
      try simp only [World.size_alloc] at k0
      have hown' := own_at hW hown; clear hown; have hown := hown'; clear hown'
      clear hW; clear hB; have hB := hB'; clear hB'; (try clear fj0); (try clear zj0); (try clear cj0); clear j0; have j0 := j0'; clear j0'; have cj0 := j0.1; have fj0 := j0.2.1; have zj0 := j0.2.2; have ck0 := k0.1; have fk0 := k0.2.1; have zk0 := k0.2.2
      generalize hS : w2.heap.size = B4 at *
      clear hS
      have k0 := k0.congr (d := fun o => .int .i64 (slB b d o)) (fun o ho => by rcases p16 ho with rfl | rfl | rfl | rfl | rfl | rfl | rfl | rfl | rfl | rfl | rfl | rfl | rfl | rfl | rfl | rfl <;> rfl)
      cases he : eqB (slB b d) b
      · have hq : ∀ w, (binOp .neq 27 (.agg #[.int .i64 ((slB b d) 0), .int .i64 ((slB b d) 1), .int .i64 ((slB b d) 2), .int .i64 ((slB b d) 3), .int .i64 ((slB b d) 4), .int .i64 ((slB b d) 5), .int .i64 ((slB b d) 6), .int .i64 ((slB b d) 7), .int .i64 ((slB b d) 8), .int .i64 ((slB b d) 9), .int .i64 ((slB b d) 10), .int .i64 ((slB b d) 11), .int .i64 ((slB b d) 12), .int .i64 ((slB b d) 13), .int .i64 ((slB b d) 14), .int .i64 ((slB b d) 15)]) (.agg #[.int .i64 (b 0), .int .i64 (b 1), .int .i64 (b 2), .int .i64 (b 3), .int .i64 (b 4), .int .i64 (b 5), .int .i64 (b 6), .int .i64 (b 7), .int .i64 (b 8), .int .i64 (b 9), .int .i64 (b 10), .int .i64 (b 11), .int .i64 (b 12), .int .i64 (b 13), .int .i64 (b 14), .int .i64 (b 15)])).run Try.prog w = .ok (.bool true) w := fun w => by rw [run_neq_Board, he]; rfl
        have HY := hide (mvL_yes he)
        clear he
        go_wp2_with (first | (refine load_Board rfl _ rfl _ _ rfl (by repeat (first | (with_reducible assumption) | (with_reducible apply Has.set) | ((with_reducible apply Has.other); (case hne => (dsimp only; omega))) | (with_reducible apply Has.alloc) | (with_reducible apply Has.drew) | (with_reducible apply Has.drewN))) (by omega) ?_) | (at_builtin; refine wpList_append_own _ rfl (.tmp 21) (.tmp 23) 41 rfl (w.heap.size + 1) 3 i0 (.int .i64 0) 1 8 Try.underlying41 hi0 hz0 hz1 hz2 rfl (by decide) _ (mvL b d).length (ints (mvL b d)) rfl (hown.alloc _) ⟨w1.heap.size, 0, none⟩ 1 1 [.int .i64 (d : Int)] rfl rfl ?c1 ?c2 ?c3 ?c4 ?c5 ?_))
        case c2 => first | rfl | (intro u hu; simp at hu; rcases hu with rfl; rfl)
        case c3 => unfold maxLen; omega
        case c4 => omega
        case c5 => have := hB.size; have := j0.2.2; simp; omega
        intro v' w3 hown' hgrow _
        have hB1 : Below w.heap.size w w3 := (below_new hB _).grown hgrow (by have := hB.size; simp; omega) (fun q hq => Nat.le_of_succ_le (hown.lt q hq).1)
        have j1 := (j0.alloc _).grown hgrow (own_at_ne hown (Nat.lt_succ_self _))
        rw [← ints_snoc, ← HY.out] at hown'
        have hl : (mvL b d).length + 1 = (mvL b (d + 1)).length := by rw [HY.out]; simp
        rw [hl] at hown'
        clear hown hB hgrow j0 k0 hl
        go_wp2
        go_roundw
        case rel => exact ⟨d + 1, by omega, by go_num, hown', hB1, j1⟩
        case measure => simp [intOf]; omega
      · have hq : ∀ w, (binOp .neq 27 (.agg #[.int .i64 ((slB b d) 0), .int .i64 ((slB b d) 1), .int .i64 ((slB b d) 2), .int .i64 ((slB b d) 3), .int .i64 ((slB b d) 4), .int .i64 ((slB b d) 5), .int .i64 ((slB b d) 6), .int .i64 ((slB b d) 7), .int .i64 ((slB b d) 8), .int .i64 ((slB b d) 9), .int .i64 ((slB b d) 10), .int .i64 ((slB b d) 11), .int .i64 ((slB b d) 12), .int .i64 ((slB b d) 13), .int .i64 ((slB b d) 14), .int .i64 ((slB b d) 15)]) (.agg #[.int .i64 (b 0), .int .i64 (b 1), .int .i64 (b 2), .int .i64 (b 3), .int .i64 (b 4), .int .i64 (b 5), .int .i64 (b 6), .int .i64 (b 7), .int .i64 (b 8), .int .i64 (b 9), .int .i64 (b 10), .int .i64 (b 11), .int .i64 (b 12), .int .i64 (b 13), .int .i64 (b 14), .int .i64 (b 15)])).run Try.prog w = .ok (.bool false) w := fun w => by rw [run_neq_Board, he]; rfl
        have HY := hide (mvL_no he)
        clear he
        go_wp2_with (first | (refine load_Board rfl _ rfl _ _ rfl (by repeat (first | (with_reducible assumption) | (with_reducible apply Has.set) | ((with_reducible apply Has.other); (case hne => (dsimp only; omega))) | (with_reducible apply Has.alloc) | (with_reducible apply Has.drew) | (with_reducible apply Has.drewN))) (by omega) ?_))
        go_roundw
        case rel => exact ⟨d + 1, by omega, by go_num, by rw [HY.out]; exact hown, hB, j0⟩
        case measure => simp [intOf]; omega

set_option maxHeartbeats 4000000 in
set_option maxRecDepth 100000 in
theorem specMovesOf_own (b : Nat → Int) (w : World) : Calls Try.prog 26 #[.agg #[.int .i64 (b 0), .int .i64 (b 1), .int .i64 (b 2), .int .i64 (b 3), .int .i64 (b 4), .int .i64 (b 5), .int .i64 (b 6), .int .i64 (b 7), .int .i64 (b 8), .int .i64 (b 9), .int .i64 (b 10), .int .i64 (b 11), .int .i64 (b 12), .int .i64 (b 13), .int .i64 (b 14), .int .i64 (b 15)]] w fun e w' => ∃ A cap, e = .returned (.tuple #[.slice A (mvO b).length cap, .bool (bdB b)]) ∧ Sl w' w.heap.size A (mvO b).length (fI (mvO b)) ∧ Below w.heap.size w w' := by
  cases hb : bdB b
  · have e0 : mvO b = [] := by simp [mvO, hb]
    rw [e0]
    clear e0
    go_enter Try.func26, Try.ntmps26
    go_upto_region 1 with (fail)
    generalize hW : w.alloc _ = w1
    have hB : Below w.heap.size w w1 := by (rw [← hW]; exact (by repeat (first | (with_reducible exact Below.refl _ _) | (with_reducible assumption) | (with_reducible refine below_go ?_ (by with_reducible assumption)) | (with_reducible refine below_new ?_ _) | ((with_reducible refine below_put ?_ ?_ _); rotate_left; (dsimp only; omega)) | (with_reducible refine Below.drew ?_) | (with_reducible refine below_dn ?_ _))))
    have hsz : Hid (w1.heap.size = w.heap.size + 1) := hide (by rw [← hW]; simp)
    have i0 : Has w1 (w.heap.size) 16 (fun o => .int .i64 (b o)) := by (rw [← hW]; repeat (first | (refine Has.new ?_ rfl; simp; done) | refine Has.alloc ?_ _))
    have ci0 := i0.1; have fi0 := i0.2.1; have zi0 := i0.2.2
    clear hW
    go_wp2_with (first | (go_at_call 64; (with_reducible refine (l2Board_any _ _).mono ?_); rintro e w2 ⟨rfl, hb2⟩; have hB' : Below w.heap.size w w2 := below_go (by repeat (first | (with_reducible exact Below.refl _ _) | (with_reducible assumption) | (with_reducible refine below_go ?_ (by with_reducible assumption)) | (with_reducible refine below_new ?_ _) | ((with_reducible refine below_put ?_ ?_ _); rotate_left; (dsimp only; omega)) | (with_reducible refine Below.drew ?_) | (with_reducible refine below_dn ?_ _))) hb2; have i0' : Has w2 (w.heap.size) 16 _ := Has.call (by repeat (first | (with_reducible assumption) | (with_reducible apply Has.set) | ((with_reducible apply Has.other); (case hne => (dsimp only; omega))) | (with_reducible apply Has.alloc) | (with_reducible apply Has.drew) | (with_reducible apply Has.drewN))) hb2; clear hB hb2; have hB := hB'; clear hB'; (try clear fi0); (try clear zi0); (try clear ci0); clear i0; have i0 := i0'; clear i0'; have ci0 := i0.1; have fi0 := i0.2.1; have zi0 := i0.2.2) | (refine load_Board rfl _ rfl _ _ rfl (by repeat (first | (with_reducible assumption) | (with_reducible apply Has.set) | ((with_reducible apply Has.other); (case hne => (dsimp only; omega))) | (with_reducible apply Has.alloc) | (with_reducible apply Has.drew) | (with_reducible apply Has.drewN))) (by omega) ?_))
    go_ret2
    exact ⟨_, _, rfl, sl_zero _ _ _ _, (by repeat (first | (with_reducible exact Below.refl _ _) | (with_reducible assumption) | (with_reducible refine below_go ?_ (by with_reducible assumption)) | (with_reducible refine below_new ?_ _) | ((with_reducible refine below_put ?_ ?_ _); rotate_left; (dsimp only; omega)) | (with_reducible refine Below.drew ?_) | (with_reducible refine below_dn ?_ _)))⟩
  · have HB := hide (bdB_in hb)
    have e0 := hide (show mvO b = mvL b 4 from if_pos hb)
    rw [e0.out]
    go_enter Try.func26, Try.ntmps26
    go_upto_region 1 with (fail)
    generalize hW : w.alloc _ = w1
    have hB : Below w.heap.size w w1 := by (rw [← hW]; exact (by repeat (first | (with_reducible exact Below.refl _ _) | (with_reducible assumption) | (with_reducible refine below_go ?_ (by with_reducible assumption)) | (with_reducible refine below_new ?_ _) | ((with_reducible refine below_put ?_ ?_ _); rotate_left; (dsimp only; omega)) | (with_reducible refine Below.drew ?_) | (with_reducible refine below_dn ?_ _))))
    have hsz : Hid (w1.heap.size = w.heap.size + 1) := hide (by rw [← hW]; simp)
    have i0 : Has w1 (w.heap.size) 16 (fun o => .int .i64 (b o)) := by (rw [← hW]; repeat (first | (refine Has.new ?_ rfl; simp; done) | refine Has.alloc ?_ _))
    have ci0 := i0.1; have fi0 := i0.2.1; have zi0 := i0.2.2
    clear hW
    go_wp2_with (first | (go_at_call 64; (with_reducible refine (l2Board_any _ _).mono ?_); rintro e w2 ⟨rfl, hb2⟩; have hB' : Below w.heap.size w w2 := below_go (by repeat (first | (with_reducible exact Below.refl _ _) | (with_reducible assumption) | (with_reducible refine below_go ?_ (by with_reducible assumption)) | (with_reducible refine below_new ?_ _) | ((with_reducible refine below_put ?_ ?_ _); rotate_left; (dsimp only; omega)) | (with_reducible refine Below.drew ?_) | (with_reducible refine below_dn ?_ _))) hb2; have i0' : Has w2 (w.heap.size) 16 _ := Has.call (by repeat (first | (with_reducible assumption) | (with_reducible apply Has.set) | ((with_reducible apply Has.other); (case hne => (dsimp only; omega))) | (with_reducible apply Has.alloc) | (with_reducible apply Has.drew) | (with_reducible apply Has.drewN))) hb2; clear hB hb2; have hB := hB'; clear hB'; (try clear fi0); (try clear zi0); (try clear ci0); clear i0; have i0 := i0'; clear i0'; have ci0 := i0.1; have fi0 := i0.2.1; have zi0 := i0.2.2) | (refine load_Board rfl _ rfl _ _ rfl (by repeat (first | (with_reducible assumption) | (with_reducible apply Has.set) | ((with_reducible apply Has.other); (case hne => (dsimp only; omega))) | (with_reducible apply Has.alloc) | (with_reducible apply Has.drew) | (with_reducible apply Has.drewN))) (by omega) ?_) | (go_at_call 82; (with_reducible refine (l2Moves_own _ HB.out _).mono ?_); rintro e w2 ⟨v, rfl, hown, hb2⟩; have hown := own_base hown (Nat.le_of_lt zi0); obtain ⟨A, cap, rfl, hS⟩ := ints_sl hown; clear hown; have hB' : Below w.heap.size w w2 := below_go (by repeat (first | (with_reducible exact Below.refl _ _) | (with_reducible assumption) | (with_reducible refine below_go ?_ (by with_reducible assumption)) | (with_reducible refine below_new ?_ _) | ((with_reducible refine below_put ?_ ?_ _); rotate_left; (dsimp only; omega)) | (with_reducible refine Below.drew ?_) | (with_reducible refine below_dn ?_ _))) hb2; have i0' : Has w2 (w.heap.size) 16 _ := Has.call (by repeat (first | (with_reducible assumption) | (with_reducible apply Has.set) | ((with_reducible apply Has.other); (case hne => (dsimp only; omega))) | (with_reducible apply Has.alloc) | (with_reducible apply Has.drew) | (with_reducible apply Has.drewN))) hb2; clear hB hb2; have hB := hB'; clear hB'; (try clear fi0); (try clear zi0); (try clear ci0); clear i0; have i0 := i0'; clear i0'; have ci0 := i0.1; have fi0 := i0.2.1; have zi0 := i0.2.2))
    go_ret2
    exact ⟨_, _, rfl, hS, (by repeat (first | (with_reducible exact Below.refl _ _) | (with_reducible assumption) | (with_reducible refine below_go ?_ (by with_reducible assumption)) | (with_reducible refine below_new ?_ _) | ((with_reducible refine below_put ?_ ?_ _); rotate_left; (dsimp only; omega)) | (with_reducible refine Below.drew ?_) | (with_reducible refine below_dn ?_ _)))⟩

set_option maxHeartbeats 4000000 in
set_option maxRecDepth 100000 in
theorem specIsOver_any (b : Nat → Int) (w : World) : Calls Try.prog 30 #[.agg #[.int .i64 (b 0), .int .i64 (b 1), .int .i64 (b 2), .int .i64 (b 3), .int .i64 (b 4), .int .i64 (b 5), .int .i64 (b 6), .int .i64 (b 7), .int .i64 (b 8), .int .i64 (b 9), .int .i64 (b 10), .int .i64 (b 11), .int .i64 (b 12), .int .i64 (b 13), .int .i64 (b 14), .int .i64 (b 15)]] w fun e w' => e = .returned (.tuple #[.bool (bdB b && ovB b), .bool (bdB b)]) ∧ Below w.heap.size w w' := by
  cases hb : bdB b
  · simp only [Bool.false_and]
    go_enter Try.func30, Try.ntmps30
    go_upto_region 1 with (fail)
    generalize hW : w.alloc _ = w1
    have hB : Below w.heap.size w w1 := by (rw [← hW]; exact (by repeat (first | (with_reducible exact Below.refl _ _) | (with_reducible assumption) | (with_reducible refine below_go ?_ (by with_reducible assumption)) | (with_reducible refine below_new ?_ _) | ((with_reducible refine below_put ?_ ?_ _); rotate_left; (dsimp only; omega)) | (with_reducible refine Below.drew ?_) | (with_reducible refine below_dn ?_ _))))
    have hsz : Hid (w1.heap.size = w.heap.size + 1) := hide (by rw [← hW]; simp)
    have i0 : Has w1 (w.heap.size) 16 (fun o => .int .i64 (b o)) := by (rw [← hW]; repeat (first | (refine Has.new ?_ rfl; simp; done) | refine Has.alloc ?_ _))
    have ci0 := i0.1; have fi0 := i0.2.1; have zi0 := i0.2.2
    clear hW
    go_wp2_with (first | (go_at_call 64; (with_reducible refine (l2Board_any _ _).mono ?_); rintro e w2 ⟨rfl, hb2⟩; have hB' : Below w.heap.size w w2 := below_go (by repeat (first | (with_reducible exact Below.refl _ _) | (with_reducible assumption) | (with_reducible refine below_go ?_ (by with_reducible assumption)) | (with_reducible refine below_new ?_ _) | ((with_reducible refine below_put ?_ ?_ _); rotate_left; (dsimp only; omega)) | (with_reducible refine Below.drew ?_) | (with_reducible refine below_dn ?_ _))) hb2; have i0' : Has w2 (w.heap.size) 16 _ := Has.call (by repeat (first | (with_reducible assumption) | (with_reducible apply Has.set) | ((with_reducible apply Has.other); (case hne => (dsimp only; omega))) | (with_reducible apply Has.alloc) | (with_reducible apply Has.drew) | (with_reducible apply Has.drewN))) hb2; clear hB hb2; have hB := hB'; clear hB'; (try clear fi0); (try clear zi0); (try clear ci0); clear i0; have i0 := i0'; clear i0'; have ci0 := i0.1; have fi0 := i0.2.1; have zi0 := i0.2.2) | (refine load_Board rfl _ rfl _ _ rfl (by repeat (first | (with_reducible assumption) | (with_reducible apply Has.set) | ((with_reducible apply Has.other); (case hne => (dsimp only; omega))) | (with_reducible apply Has.alloc) | (with_reducible apply Has.drew) | (with_reducible apply Has.drewN))) (by omega) ?_))
    go_ret2
    exact ⟨rfl, (by repeat (first | (with_reducible exact Below.refl _ _) | (with_reducible assumption) | (with_reducible refine below_go ?_ (by with_reducible assumption)) | (with_reducible refine below_new ?_ _) | ((with_reducible refine below_put ?_ ?_ _); rotate_left; (dsimp only; omega)) | (with_reducible refine Below.drew ?_) | (with_reducible refine below_dn ?_ _)))⟩
  · have HB := hide (bdB_in hb)
    simp only [Bool.true_and]
    have ho := ovB_len b
    go_enter Try.func30, Try.ntmps30
    go_upto_region 1 with (fail)
    generalize hW : w.alloc _ = w1
    have hB : Below w.heap.size w w1 := by (rw [← hW]; exact (by repeat (first | (with_reducible exact Below.refl _ _) | (with_reducible assumption) | (with_reducible refine below_go ?_ (by with_reducible assumption)) | (with_reducible refine below_new ?_ _) | ((with_reducible refine below_put ?_ ?_ _); rotate_left; (dsimp only; omega)) | (with_reducible refine Below.drew ?_) | (with_reducible refine below_dn ?_ _))))
    have hsz : Hid (w1.heap.size = w.heap.size + 1) := hide (by rw [← hW]; simp)
    have i0 : Has w1 (w.heap.size) 16 (fun o => .int .i64 (b o)) := by (rw [← hW]; repeat (first | (refine Has.new ?_ rfl; simp; done) | refine Has.alloc ?_ _))
    have ci0 := i0.1; have fi0 := i0.2.1; have zi0 := i0.2.2
    clear hW
    go_wp2_with (first | (go_at_call 64; (with_reducible refine (l2Board_any _ _).mono ?_); rintro e w2 ⟨rfl, hb2⟩; have hB' : Below w.heap.size w w2 := below_go (by repeat (first | (with_reducible exact Below.refl _ _) | (with_reducible assumption) | (with_reducible refine below_go ?_ (by with_reducible assumption)) | (with_reducible refine below_new ?_ _) | ((with_reducible refine below_put ?_ ?_ _); rotate_left; (dsimp only; omega)) | (with_reducible refine Below.drew ?_) | (with_reducible refine below_dn ?_ _))) hb2; have i0' : Has w2 (w.heap.size) 16 _ := Has.call (by repeat (first | (with_reducible assumption) | (with_reducible apply Has.set) | ((with_reducible apply Has.other); (case hne => (dsimp only; omega))) | (with_reducible apply Has.alloc) | (with_reducible apply Has.drew) | (with_reducible apply Has.drewN))) hb2; clear hB hb2; have hB := hB'; clear hB'; (try clear fi0); (try clear zi0); (try clear ci0); clear i0; have i0 := i0'; clear i0'; have ci0 := i0.1; have fi0 := i0.2.1; have zi0 := i0.2.2) | (refine load_Board rfl _ rfl _ _ rfl (by repeat (first | (with_reducible assumption) | (with_reducible apply Has.set) | ((with_reducible apply Has.other); (case hne => (dsimp only; omega))) | (with_reducible apply Has.alloc) | (with_reducible apply Has.drew) | (with_reducible apply Has.drewN))) (by omega) ?_) | (go_at_call 82; (with_reducible refine (l2Moves_own _ HB.out _).mono ?_); rintro e w2 ⟨v, rfl, hown, hb2⟩; obtain ⟨A, cap, rfl, hS⟩ := ints_sl hown; clear hown; have hB' : Below w.heap.size w w2 := below_go (by repeat (first | (with_reducible exact Below.refl _ _) | (with_reducible assumption) | (with_reducible refine below_go ?_ (by with_reducible assumption)) | (with_reducible refine below_new ?_ _) | ((with_reducible refine below_put ?_ ?_ _); rotate_left; (dsimp only; omega)) | (with_reducible refine Below.drew ?_) | (with_reducible refine below_dn ?_ _))) hb2; have i0' : Has w2 (w.heap.size) 16 _ := Has.call (by repeat (first | (with_reducible assumption) | (with_reducible apply Has.set) | ((with_reducible apply Has.other); (case hne => (dsimp only; omega))) | (with_reducible apply Has.alloc) | (with_reducible apply Has.drew) | (with_reducible apply Has.drewN))) hb2; clear hB hb2; have hB := hB'; clear hB'; (try clear fi0); (try clear zi0); (try clear ci0); clear i0; have i0 := i0'; clear i0'; have ci0 := i0.1; have fi0 := i0.2.1; have zi0 := i0.2.2))
    go_ret2
    exact ⟨rfl, (by repeat (first | (with_reducible exact Below.refl _ _) | (with_reducible assumption) | (with_reducible refine below_go ?_ (by with_reducible assumption)) | (with_reducible refine below_new ?_ _) | ((with_reducible refine below_put ?_ ?_ _); rotate_left; (dsimp only; omega)) | (with_reducible refine Below.drew ?_) | (with_reducible refine below_dn ?_ _)))⟩

end Go.Proofs.Ytegdnfmhhigjfaa

namespace Go.Proofs.Ytegdnfmhhigjfaa
open Go.RowKit

theorem sl_fr {a w3 : World} {base k : Nat} {A : Option Addr} {c : Nat → Value} {ob : Obj} (h : Sl a base A k c) (ho : Only a.heap.size (a.alloc ob) w3) : Sl w3 base A k c :=
  fun hk => let ⟨g, e, hB, hH⟩ := h hk; ⟨g, e, hB, (hH.alloc ob).only ho (by have := hH.2.2; omega)⟩
theorem Sl.drew {a : World} {base k : Nat} {A : Option Addr} {c : Nat → Value} (h : Sl a base A k c) : Sl a.drew base A k c :=
  fun hk => let ⟨g, e, hB, hH⟩ := h hk; ⟨g, e, hB, Has.drew hH⟩

set_option maxHeartbeats 4000000 in
theorem rInts_any (w : World) (A A' : Option Addr) (B B' c1 c2 : Nat) (l : List Nat) (hn : l.length ≤ 65536) (hS : Sl w B A l.length (fI l)) (hS' : Sl w B' A' l.length (fI l)) :
    Calls Try.prog 28 #[.slice A l.length c1, .slice A' l.length c2] w fun e w' => e = .returned (.bool true) ∧ Below w.heap.size w w' := by
  obtain ⟨n, hnl⟩ : ∃ n, n = l.length := ⟨_, rfl⟩
  rw [← hnl] at hn hS hS' ⊢
  rcases Nat.eq_zero_or_pos n with h0 | h0
  · subst h0
    clear hS hS' hnl
    go_enter Try.func28, Try.ntmps28
    go_wp2
    refine wp_loop_rounds 1 ?_
    rw [rounds_succ]
    go_wp2
    go_ret
    exact ⟨rfl, (by repeat (first | (with_reducible exact Below.refl _ _) | (with_reducible assumption) | (with_reducible refine below_go ?_ (by with_reducible assumption)) | (with_reducible refine below_new ?_ _) | ((with_reducible refine below_put ?_ ?_ _); rotate_left; (dsimp only; omega)) | (with_reducible refine Below.drew ?_) | (with_reducible refine below_dn ?_ _)))⟩
  · obtain ⟨g, rfl, _, hH⟩ := hS h0
    obtain ⟨g', rfl, _, hH'⟩ := hS' h0
    have H1 := hide hH
    have H2 := hide hH'
    clear hH hH' hS hS' hnl
    go_enter Try.func28, Try.ntmps28
    go_wp2
    go_loopw [5] (fun v wr => ∃ k : Nat, k ≤ n ∧ v = .int .i64 k ∧ Below w.heap.size w wr) (fun i _ => n - (intOf i).toNat)
    case atStart => exact ⟨0, by omega, rfl, (by repeat (first | (with_reducible exact Below.refl _ _) | (with_reducible assumption) | (with_reducible refine below_go ?_ (by with_reducible assumption)) | (with_reducible refine below_new ?_ _) | ((with_reducible refine below_put ?_ ?_ _); rotate_left; (dsimp only; omega)) | (with_reducible refine Below.drew ?_) | (with_reducible refine below_dn ?_ _)))⟩
    case round =>
      obtain ⟨k, hk, rfl, hB⟩ := hrel
      by_cases hlt : k < n
      · have i1 := H1.out.call hB
        have i2 := H2.out.call hB
        have a1 : (0 : Int) ≤ k := by omega
        have a2 : (k : Int) < n := by omega
        obtain ⟨x, hx⟩ : ∃ x : Int, x = ((l.getD k 0 : Nat) : Int) := ⟨_, rfl⟩
        have q1 : wr.cell? ⟨g, k, none⟩ = some (.int .i64 x) := (i1.1 _ hlt).trans (by rw [hx]; rfl)
        have q2 : wr.cell? ⟨g', k, none⟩ = some (.int .i64 x) := (i2.1 _ hlt).trans (by rw [hx]; rfl)
        clear i1 i2 hx
        go_wp2_with fail
        go_quiet (fail)
        go_wp2
        go_roundw
        case rel => exact ⟨k + 1, by omega, by go_num, (by repeat (first | (with_reducible exact Below.refl _ _) | (with_reducible assumption) | (with_reducible refine below_go ?_ (by with_reducible assumption)) | (with_reducible refine below_new ?_ _) | ((with_reducible refine below_put ?_ ?_ _); rotate_left; (dsimp only; omega)) | (with_reducible refine Below.drew ?_) | (with_reducible refine below_dn ?_ _)))⟩
        case measure => simp [intOf]; omega
      · obtain rfl : k = n := by omega
        go_wp2
        go_ret
        exact ⟨rfl, (by repeat (first | (with_reducible exact Below.refl _ _) | (with_reducible assumption) | (with_reducible refine below_go ?_ (by with_reducible assumption)) | (with_reducible refine below_new ?_ _) | ((with_reducible refine below_put ?_ ?_ _); rotate_left; (dsimp only; omega)) | (with_reducible refine Below.drew ?_) | (with_reducible refine below_dn ?_ _)))⟩

set_option maxHeartbeats 4000000 in
theorem rHas_any (w : World) (A : Option Addr) (B c1 d : Nat) (l : List Nat) (hn : l.length ≤ 65536) (hS : Sl w B A l.length (fI l)) :
    Calls Try.prog 36 #[.slice A l.length c1, .int .i64 (d : Int)] w fun e w' => e = .returned (.bool (decide (d ∈ l))) ∧ Below w.heap.size w w' := by
  obtain ⟨n, hnl⟩ : ∃ n, n = l.length := ⟨_, rfl⟩
  rw [← hnl] at hn hS ⊢
  rcases Nat.eq_zero_or_pos n with h0 | h0
  · subst h0
    have e0 : l = [] := List.length_eq_zero_iff.1 hnl.symm
    subst e0
    clear hS hnl
    go_enter Try.func36, Try.ntmps36
    go_wp2
    refine wp_loop_rounds 1 ?_
    rw [rounds_succ]
    go_wp2
    go_ret
    exact ⟨by simp, (by repeat (first | (with_reducible exact Below.refl _ _) | (with_reducible assumption) | (with_reducible refine below_go ?_ (by with_reducible assumption)) | (with_reducible refine below_new ?_ _) | ((with_reducible refine below_put ?_ ?_ _); rotate_left; (dsimp only; omega)) | (with_reducible refine Below.drew ?_) | (with_reducible refine below_dn ?_ _)))⟩
  · obtain ⟨g, rfl, _, hH⟩ := hS h0
    have H1 := hide hH
    have HN := hide hnl
    clear hH hS hnl
    go_enter Try.func36, Try.ntmps36
    go_wp2
    go_loopw [5] (fun v wr => ∃ k : Nat, k ≤ n ∧ v = .int .i64 k ∧ Hid (∀ j, j < k → l.getD j 0 ≠ d) ∧ Below w.heap.size w wr) (fun i _ => n - (intOf i).toNat)
    case atStart => exact ⟨0, by omega, rfl, hide (fun j hj => absurd hj (Nat.not_lt_zero _)), (by repeat (first | (with_reducible exact Below.refl _ _) | (with_reducible assumption) | (with_reducible refine below_go ?_ (by with_reducible assumption)) | (with_reducible refine below_new ?_ _) | ((with_reducible refine below_put ?_ ?_ _); rotate_left; (dsimp only; omega)) | (with_reducible refine Below.drew ?_) | (with_reducible refine below_dn ?_ _)))⟩
    case round =>
      obtain ⟨k, hk, rfl, hall, hB⟩ := hrel
      by_cases hlt : k < n
      · have i1 := H1.out.call hB
        have a1 : (0 : Int) ≤ k := by omega
        have a2 : (k : Int) < n := by omega
        obtain ⟨x, hx⟩ : ∃ x : Nat, x = l.getD k 0 := ⟨_, rfl⟩
        have q1 : wr.cell? ⟨g, k, none⟩ = some (.int .i64 (x : Int)) := (i1.1 _ hlt).trans (by rw [hx]; rfl)
        have HX := hide hx
        clear i1 hx
        by_cases hxd : x = d
        · have hmem : d ∈ l := by
            have h := HX.out
            rw [hxd] at h
            rw [h]
            have hkl : k < l.length := by rw [← HN.out]; exact hlt
            rw [List.getD_eq_getElem?_getD, List.getElem?_eq_getElem hkl]
            exact List.getElem_mem hkl
          have HM := hide hmem
          subst hxd
          clear hmem
          go_wp2
          go_ret
          exact ⟨ret_bool (by simp [HM.out]), (by repeat (first | (with_reducible exact Below.refl _ _) | (with_reducible assumption) | (with_reducible refine below_go ?_ (by with_reducible assumption)) | (with_reducible refine below_new ?_ _) | ((with_reducible refine below_put ?_ ?_ _); rotate_left; (dsimp only; omega)) | (with_reducible refine Below.drew ?_) | (with_reducible refine below_dn ?_ _)))⟩
        · have hxi : ((x : Int) == (d : Int)) = false := beq_eq_false_iff_ne.2 (by omega)
          have HXD := hide hxd
          clear hxd
          go_wp2
          go_roundw
          case rel => exact ⟨k + 1, by omega, by go_num, hide (fun j hj => by
            rcases (by omega : j < k ∨ j = k) with h | rfl
            · exact hall.out j h
            · rw [← HX.out]; exact HXD.out), (by repeat (first | (with_reducible exact Below.refl _ _) | (with_reducible assumption) | (with_reducible refine below_go ?_ (by with_reducible assumption)) | (with_reducible refine below_new ?_ _) | ((with_reducible refine below_put ?_ ?_ _); rotate_left; (dsimp only; omega)) | (with_reducible refine Below.drew ?_) | (with_reducible refine below_dn ?_ _)))⟩
          case measure => simp [intOf]; omega
      · obtain rfl : k = n := by omega
        have hno : d ∉ l := fun hm => by
          obtain ⟨j, hj, e⟩ := List.getElem_of_mem hm
          refine hall.out j (by rw [HN.out]; exact hj) ?_
          rw [List.getD_eq_getElem?_getD, List.getElem?_eq_getElem hj]
          exact e
        have HM := hide hno
        clear hno
        go_wp2
        go_ret
        exact ⟨ret_bool (by simp [HM.out]), (by repeat (first | (with_reducible exact Below.refl _ _) | (with_reducible assumption) | (with_reducible refine below_go ?_ (by with_reducible assumption)) | (with_reducible refine below_new ?_ _) | ((with_reducible refine below_put ?_ ?_ _); rotate_left; (dsimp only; omega)) | (with_reducible refine Below.drew ?_) | (with_reducible refine below_dn ?_ _)))⟩

theorem rInts_n {l : List Nat} {n : Nat} (hnl : n = l.length) (hn : n ≤ 65536) (w : World) {A A' : Option Addr} {B B' c1 c2 : Nat} (hS : Sl w B A n (fI l)) (hS' : Sl w B' A' n (fI l)) :
    Calls Try.prog 28 #[.slice A n c1, .slice A' n c2] w fun e w' => e = .returned (.bool true) ∧ Below w.heap.size w w' := by
  subst hnl
  exact rInts_any w A A' B B' c1 c2 l hn hS hS'
theorem rHas_n {l : List Nat} {n d : Nat} {q : Bool} (hnl : n = l.length) (hn : n ≤ 65536) (hq : q = decide (d ∈ l)) (w : World) {A : Option Addr} {B c1 : Nat} (hS : Sl w B A n (fI l)) :
    Calls Try.prog 36 #[.slice A n c1, .int .i64 (d : Int)] w fun e w' => e = .returned (.bool q) ∧ Below w.heap.size w w' := by
  subst hnl hq
  exact rHas_any w A B c1 d l hn hS

end Go.Proofs.Ytegdnfmhhigjfaa

namespace Go.Proofs.Ytegdnfmhhigjfaa
open Go.RowKit

def emC (b : Nat → Int) (n : Nat) : List Value := (emL b n).flatMap fun p => [.int .i64 ((p / 4 : Nat) : Int), .int .i64 ((p % 4 : Nat) : Int)]
theorem emC_yes {b : Nat → Int} {r c : Nat} (hc : c < 4) (h : b (4 * r + c) = 0) : emC b (4 * r + (c + 1)) = emC b (4 * r + c) ++ [.int .i64 (r : Int), .int .i64 (c : Int)] := by
  unfold emC
  rw [← Nat.add_assoc, emL_succ, if_pos h, List.flatMap_append]
  simp only [List.flatMap_cons, List.flatMap_nil, List.append_nil]
  rw [show (4 * r + c) / 4 = r by omega, show (4 * r + c) % 4 = c by omega]
theorem emL_yes {b : Nat → Int} {r c : Nat} (h : b (4 * r + c) = 0) : (emL b (4 * r + (c + 1))).length = (emL b (4 * r + c)).length + 1 := by
  rw [← Nat.add_assoc, emL_succ, if_pos h]; simp
theorem emC_no {b : Nat → Int} {r c : Nat} (h : ¬ b (4 * r + c) = 0) : emC b (4 * r + (c + 1)) = emC b (4 * r + c) := by
  unfold emC
  rw [← Nat.add_assoc, emL_succ, if_neg h]
theorem emL_no {b : Nat → Int} {r c : Nat} (h : ¬ b (4 * r + c) = 0) : (emL b (4 * r + (c + 1))).length = (emL b (4 * r + c)).length := by
  rw [← Nat.add_assoc, emL_succ, if_neg h]

set_option maxHeartbeats 8000000 in
set_option maxRecDepth 100000 in
theorem l2Empty_own (b : Nat → Int) (w : World) : Calls Try.prog 93 #[.agg #[.int .i64 (b 0), .int .i64 (b 1), .int .i64 (b 2), .int .i64 (b 3), .int .i64 (b 4), .int .i64 (b 5), .int .i64 (b 6), .int .i64 (b 7), .int .i64 (b 8), .int .i64 (b 9), .int .i64 (b 10), .int .i64 (b 11), .int .i64 (b 12), .int .i64 (b 13), .int .i64 (b 14), .int .i64 (b 15)]] w fun e w' => ∃ v, e = .returned v ∧ w'.ownsRow w.heap.size 53 2 v (emL b 16).length (emC b 16) ∧ Below w.heap.size w w' := by
  obtain ⟨i0, hi0, hz0, hz1, hz2⟩ := info_parts info_A2
  go_enter Try.func93, Try.ntmps93
  go_upto_region 2 with (fail)
  go_wp2_with fail
  generalize hW : (w.alloc _).alloc _ = w1
  have O0 := own_made1 (size := 2) hW
  have hB : Below w.heap.size w w1 := by (rw [← hW]; exact (by repeat (first | (with_reducible exact Below.refl _ _) | (with_reducible assumption) | (with_reducible refine below_go ?_ (by with_reducible assumption)) | (with_reducible refine below_new ?_ _) | ((with_reducible refine below_put ?_ ?_ _); rotate_left; (dsimp only; omega)) | (with_reducible refine Below.drew ?_) | (with_reducible refine below_dn ?_ _))))
  have j0 : Has w1 w.heap.size 16 (fun o => .int .i64 (b o)) := by (rw [← hW]; repeat (first | (refine Has.new ?_ rfl; simp; done) | refine Has.alloc ?_ _))
  clear hW
  go_loopw [3, 4] (fun v i wr => ∃ r : Nat, r ≤ 4 ∧ i = .int .i64 r ∧ wr.ownsRow (w.heap.size + 1) 53 2 v (emL b (4 * r)).length (emC b (4 * r)) ∧ Below w.heap.size w wr ∧ Has wr w.heap.size 16 (fun o => .int .i64 (b o))) (fun _ i _ => 4 - (intOf i).toNat)
  case atStart => exact ⟨0, by omega, rfl, O0, hB, j0⟩
  case round =>
    clear hB j0 O0
    rename_i v3 _
    obtain ⟨r, hr, rfl, hown, hB, j0⟩ := hrel
    by_cases h4 : r = 4
    · subst h4
      go_wp2
      go_ret
      exact ⟨_, rfl, own_base hown (Nat.le_succ _), hB⟩
    · have hlt : r < 4 := by omega
      have hlti : (r : Int) < 4 := by omega
      have hdr : decide ((r : Int) < 4) = true := decide_eq_true hlti
      have a0 : (0 : Int) ≤ r := by omega
      go_wp2_with fail
      go_loopw [3, 5] (fun v i wr => ∃ c : Nat, c ≤ 4 ∧ i = .int .i64 c ∧ wr.ownsRow (w.heap.size + 1) 53 2 v (emL b (4 * r + c)).length (emC b (4 * r + c)) ∧ Below w.heap.size w wr ∧ Has wr w.heap.size 16 (fun o => .int .i64 (b o))) (fun _ i _ => 4 - (intOf i).toNat)
      case atStart => exact ⟨0, by omega, rfl, hown, hB, j0⟩
      case round =>
        clear hB j0 hown
        rename_i v3 _
        obtain ⟨c, hc, rfl, hown, hB, j0⟩ := hrel
        by_cases h4 : c = 4
        · subst h4
          go_wp2
          go_roundw
          case rel => exact ⟨r + 1, by omega, by go_num, hown, hB, j0⟩
          case measure => simp [intOf]; omega
        · have hltc : c < 4 := by omega
          have q1 : wr.cell? ⟨w.heap.size, r * 4 + c, none⟩ = some (.int .i64 (b (4 * r + c))) := (j0.1 _ (by omega)).trans (by rw [Nat.mul_comm])
          have hlen := emL_len b (4 * r + c)
          by_cases hz : b (4 * r + c) = 0
          · have HY := hide (emC_yes hltc hz)
            have HL := hide (emL_yes hz)
            go_wp2_with (at_builtin; refine wpList_append_own _ rfl (.tmp 22) (.tmp 26) 49 rfl (w.heap.size + 1) 53 i0 (.agg #[.int .i64 0, .int .i64 0]) 2 16 Try.underlying49 hi0 hz0 hz1 hz2 rfl (by decide) _ (emL b (4 * r + c)).length (emC b (4 * r + c)) rfl (hown.alloc _) ⟨wr.heap.size, 0, none⟩ 1 1 [.int .i64 (r : Int), .int .i64 (c : Int)] rfl rfl ?c1 ?c2 ?c3 ?c4 ?c5 ?_)
            case c1 => exact two_cells
            case c2 => intro u hu; simp at hu; rcases hu with rfl | rfl <;> rfl
            case c3 => unfold maxLen; omega
            case c4 => omega
            case c5 => have := hB.size; have := j0.2.2; simp; omega
            intro v' w1 hown' hgrow _
            have hB1 : Below w.heap.size w w1 := (below_new hB _).grown hgrow (by have := hB.size; simp; omega) (fun q hq => Nat.le_of_succ_le (hown.lt q hq).1)
            have j1 := (j0.alloc _).grown hgrow (own_at_ne hown (Nat.lt_succ_self _))
            rw [← HY.out, ← HL.out] at hown'
            clear hown hB hgrow j0 q1
            go_wp2
            go_roundw
            case rel => exact ⟨c + 1, by omega, by go_num, hown', hB1, j1⟩
            case measure => simp [intOf]; omega
          · have HY := hide (emC_no hz)
            have HL := hide (emL_no hz)
            go_wp2
            go_roundw
            case rel => exact ⟨c + 1, by omega, by go_num, by rw [HY.out, HL.out]; exact hown, hB, j0⟩
            case measure => simp [intOf]; omega

theorem mnB_range {b : Nat → Int} : 0 ≤ mnB b 16 ∧ mnB b 16 ≤ 16 := by
  have h := mnB_emL b 16; have h2 := emL_len b 16; omega

set_option maxHeartbeats 4000000 in
theorem l2Many_any (b : Nat → Int) (w : World) : Calls Try.prog 87 #[.agg #[.int .i64 (b 0), .int .i64 (b 1), .int .i64 (b 2), .int .i64 (b 3), .int .i64 (b 4), .int .i64 (b 5), .int .i64 (b 6), .int .i64 (b 7), .int .i64 (b 8), .int .i64 (b 9), .int .i64 (b 10), .int .i64 (b 11), .int .i64 (b 12), .int .i64 (b 13), .int .i64 (b 14), .int .i64 (b 15)]] w fun e w' => e = .returned (.int .i64 (mnB b 16)) ∧ Below w.heap.size w w' := by
  have hm := hide (mnB_emL b 16)
  have hl := emL_len b 16
  have s1 : IntKind.i64.wrap (16 - ((emL b 16).length : Int)) = mnB b 16 := by rw [IntWalk.i64_in _ (by omega), hm.out]; rfl
  go_enter Try.func87, Try.ntmps87
  go_upto_region 1 with (fail)
  generalize hW : w.alloc _ = w1
  have hB : Below w.heap.size w w1 := by (rw [← hW]; exact (by repeat (first | (with_reducible exact Below.refl _ _) | (with_reducible assumption) | (with_reducible refine below_go ?_ (by with_reducible assumption)) | (with_reducible refine below_new ?_ _) | ((with_reducible refine below_put ?_ ?_ _); rotate_left; (dsimp only; omega)) | (with_reducible refine Below.drew ?_) | (with_reducible refine below_dn ?_ _))))
  have hsz : Hid (w1.heap.size = w.heap.size + 1) := hide (by rw [← hW]; simp)
  have i0 : Has w1 (w.heap.size) 16 (fun o => .int .i64 (b o)) := by (rw [← hW]; repeat (first | (refine Has.new ?_ rfl; simp; done) | refine Has.alloc ?_ _))
  have ci0 := i0.1; have fi0 := i0.2.1; have zi0 := i0.2.2
  clear hW
  clear hsz
  go_wp2_with (first | (refine load_Board rfl _ rfl _ _ rfl (by repeat (first | (with_reducible assumption) | (with_reducible apply Has.set) | ((with_reducible apply Has.other); (case hne => (dsimp only; omega))) | (with_reducible apply Has.alloc) | (with_reducible apply Has.drew) | (with_reducible apply Has.drewN))) (by omega) ?_) | (go_at_call 93; (with_reducible refine (l2Empty_own _ _).mono ?_); rintro e w2 ⟨v, rfl, hown, hb2⟩; obtain ⟨A, cap, rfl, hcap, hS⟩ := own_sl hown; have hB' : Below w.heap.size w w2 := below_go (by repeat (first | (with_reducible exact Below.refl _ _) | (with_reducible assumption) | (with_reducible refine below_go ?_ (by with_reducible assumption)) | (with_reducible refine below_new ?_ _) | ((with_reducible refine below_put ?_ ?_ _); rotate_left; (dsimp only; omega)) | (with_reducible refine Below.drew ?_) | (with_reducible refine below_dn ?_ _))) hb2; have i0' : Has w2 (w.heap.size) 16 _ := Has.call (by repeat (first | (with_reducible assumption) | (with_reducible apply Has.set) | ((with_reducible apply Has.other); (case hne => (dsimp only; omega))) | (with_reducible apply Has.alloc) | (with_reducible apply Has.drew) | (with_reducible apply Has.drewN))) hb2; clear hB hb2; have hB := hB'; clear hB'; (try clear fi0); (try clear zi0); (try clear ci0); clear i0; have i0 := i0'; clear i0'; have ci0 := i0.1; have fi0 := i0.2.1; have zi0 := i0.2.2))
  go_ret
  exact ⟨rfl, (by repeat (first | (with_reducible exact Below.refl _ _) | (with_reducible assumption) | (with_reducible refine below_go ?_ (by with_reducible assumption)) | (with_reducible refine below_new ?_ _) | ((with_reducible refine below_put ?_ ?_ _); rotate_left; (dsimp only; omega)) | (with_reducible refine Below.drew ?_) | (with_reducible refine below_dn ?_ _)))⟩

end Go.Proofs.Ytegdnfmhhigjfaa

namespace Go.Proofs.Ytegdnfmhhigjfaa
open Go.RowKit

theorem keepB {w' : World} {B0 B1 : Nat} {b c : Nat → Int} (h0 : Has w' B0 16 (fun o => .int .i64 (b o))) (h1 : Has w' B1 16 (fun o => .int .i64 (c o))) : (∀ o, o < 16 → w'.cell? ⟨B0, o, none⟩ = some (.int .i64 (b o))) ∧ (∀ o, o < 16 → w'.cell? ⟨B1, o, none⟩ = some (.int .i64 (c o))) :=
  ⟨h0.1, h1.1⟩

set_option maxHeartbeats 8000000 in
set_option maxRecDepth 100000 in
theorem mergersOf_any (b : Nat → Int) (d : Int) (w : World) : Calls Try.prog 31 #[.agg #[.int .i64 (b 0), .int .i64 (b 1), .int .i64 (b 2), .int .i64 (b 3), .int .i64 (b 4), .int .i64 (b 5), .int .i64 (b 6), .int .i64 (b 7), .int .i64 (b 8), .int .i64 (b 9), .int .i64 (b 10), .int .i64 (b 11), .int .i64 (b 12), .int .i64 (b 13), .int .i64 (b 14), .int .i64 (b 15)], .int .i64 d] w fun e w' => e = .returned (.tuple #[.int .i64 (zr (bdB b && inB d 0 3) (mgTo b d.toNat 4)), .bool (bdB b && inB d 0 3)]) ∧ Below w.heap.size w w' := by
  cases hb : bdB b
  · simp only [Bool.false_and, zr_false]
    go_enter Try.func31, Try.ntmps31
    go_upto_region 1 with (fail)
    generalize hW : w.alloc _ = w1
    have hB : Below w.heap.size w w1 := by (rw [← hW]; exact (by repeat (first | (with_reducible exact Below.refl _ _) | (with_reducible assumption) | (with_reducible refine below_go ?_ (by with_reducible assumption)) | (with_reducible refine below_new ?_ _) | ((with_reducible refine below_put ?_ ?_ _); rotate_left; (dsimp only; omega)) | (with_reducible refine Below.drew ?_) | (with_reducible refine below_dn ?_ _))))
    have hsz : Hid (w1.heap.size = w.heap.size + 1) := hide (by rw [← hW]; simp)
    have i0 : Has w1 (w.heap.size) 16 (fun o => .int .i64 (b o)) := by (rw [← hW]; repeat (first | (refine Has.new ?_ rfl; simp; done) | refine Has.alloc ?_ _))
    have ci0 := i0.1; have fi0 := i0.2.1; have zi0 := i0.2.2
    clear hW
    go_wp2_with (first | (go_at_call 27; (with_reducible refine (isBoard_any _ _).mono ?_); rintro e w2 ⟨rfl, hb2⟩; have hB' : Below w.heap.size w w2 := below_go (by repeat (first | (with_reducible exact Below.refl _ _) | (with_reducible assumption) | (with_reducible refine below_go ?_ (by with_reducible assumption)) | (with_reducible refine below_new ?_ _) | ((with_reducible refine below_put ?_ ?_ _); rotate_left; (dsimp only; omega)) | (with_reducible refine Below.drew ?_) | (with_reducible refine below_dn ?_ _))) hb2; have i0' : Has w2 (w.heap.size) 16 _ := Has.call (by repeat (first | (with_reducible assumption) | (with_reducible apply Has.set) | ((with_reducible apply Has.other); (case hne => (dsimp only; omega))) | (with_reducible apply Has.alloc) | (with_reducible apply Has.drew) | (with_reducible apply Has.drewN))) hb2; clear hB hb2; have hB := hB'; clear hB'; (try clear fi0); (try clear zi0); (try clear ci0); clear i0; have i0 := i0'; clear i0'; have ci0 := i0.1; have fi0 := i0.2.1; have zi0 := i0.2.2) | (go_at_call 73; refine (isDirection_any _ _).mono ?_; rintro e w1 ⟨rfl, rfl⟩) | (refine load_Board rfl _ rfl _ _ rfl (by repeat (first | (with_reducible assumption) | (with_reducible apply Has.set) | ((with_reducible apply Has.other); (case hne => (dsimp only; omega))) | (with_reducible apply Has.alloc) | (with_reducible apply Has.drew) | (with_reducible apply Has.drewN))) (by omega) ?_))
    go_ret2
    exact ⟨rfl, (by repeat (first | (with_reducible exact Below.refl _ _) | (with_reducible assumption) | (with_reducible refine below_go ?_ (by with_reducible assumption)) | (with_reducible refine below_new ?_ _) | ((with_reducible refine below_put ?_ ?_ _); rotate_left; (dsimp only; omega)) | (with_reducible refine Below.drew ?_) | (with_reducible refine below_dn ?_ _)))⟩
  · cases hd : inB d 0 3
    · simp only [Bool.and_false, zr_false]
      go_enter Try.func31, Try.ntmps31
      go_upto_region 1 with (fail)
      generalize hW : w.alloc _ = w1
      have hB : Below w.heap.size w w1 := by (rw [← hW]; exact (by repeat (first | (with_reducible exact Below.refl _ _) | (with_reducible assumption) | (with_reducible refine below_go ?_ (by with_reducible assumption)) | (with_reducible refine below_new ?_ _) | ((with_reducible refine below_put ?_ ?_ _); rotate_left; (dsimp only; omega)) | (with_reducible refine Below.drew ?_) | (with_reducible refine below_dn ?_ _))))
      have hsz : Hid (w1.heap.size = w.heap.size + 1) := hide (by rw [← hW]; simp)
      have i0 : Has w1 (w.heap.size) 16 (fun o => .int .i64 (b o)) := by (rw [← hW]; repeat (first | (refine Has.new ?_ rfl; simp; done) | refine Has.alloc ?_ _))
      have ci0 := i0.1; have fi0 := i0.2.1; have zi0 := i0.2.2
      clear hW
      go_wp2_with (first | (go_at_call 27; (with_reducible refine (isBoard_any _ _).mono ?_); rintro e w2 ⟨rfl, hb2⟩; have hB' : Below w.heap.size w w2 := below_go (by repeat (first | (with_reducible exact Below.refl _ _) | (with_reducible assumption) | (with_reducible refine below_go ?_ (by with_reducible assumption)) | (with_reducible refine below_new ?_ _) | ((with_reducible refine below_put ?_ ?_ _); rotate_left; (dsimp only; omega)) | (with_reducible refine Below.drew ?_) | (with_reducible refine below_dn ?_ _))) hb2; have i0' : Has w2 (w.heap.size) 16 _ := Has.call (by repeat (first | (with_reducible assumption) | (with_reducible apply Has.set) | ((with_reducible apply Has.other); (case hne => (dsimp only; omega))) | (with_reducible apply Has.alloc) | (with_reducible apply Has.drew) | (with_reducible apply Has.drewN))) hb2; clear hB hb2; have hB := hB'; clear hB'; (try clear fi0); (try clear zi0); (try clear ci0); clear i0; have i0 := i0'; clear i0'; have ci0 := i0.1; have fi0 := i0.2.1; have zi0 := i0.2.2) | (go_at_call 73; refine (isDirection_any _ _).mono ?_; rintro e w1 ⟨rfl, rfl⟩) | (refine load_Board rfl _ rfl _ _ rfl (by repeat (first | (with_reducible assumption) | (with_reducible apply Has.set) | ((with_reducible apply Has.other); (case hne => (dsimp only; omega))) | (with_reducible apply Has.alloc) | (with_reducible apply Has.drew) | (with_reducible apply Has.drewN))) (by omega) ?_))
      go_ret2
      exact ⟨rfl, (by repeat (first | (with_reducible exact Below.refl _ _) | (with_reducible assumption) | (with_reducible refine below_go ?_ (by with_reducible assumption)) | (with_reducible refine below_new ?_ _) | ((with_reducible refine below_put ?_ ?_ _); rotate_left; (dsimp only; omega)) | (with_reducible refine Below.drew ?_) | (with_reducible refine below_dn ?_ _)))⟩
    · obtain ⟨n, hn, rfl⟩ := dir_nat hd
      have H := hide (bdB_in hb)
      simp only [Bool.and_self, zr_true, Int.toNat_natCast]
      go_enter Try.func31, Try.ntmps31
      go_upto_region 1 with (fail)
      generalize hW : w.alloc _ = w1
      have hB : Below w.heap.size w w1 := by (rw [← hW]; exact (by repeat (first | (with_reducible exact Below.refl _ _) | (with_reducible assumption) | (with_reducible refine below_go ?_ (by with_reducible assumption)) | (with_reducible refine below_new ?_ _) | ((with_reducible refine below_put ?_ ?_ _); rotate_left; (dsimp only; omega)) | (with_reducible refine Below.drew ?_) | (with_reducible refine below_dn ?_ _))))
      have hsz : Hid (w1.heap.size = w.heap.size + 1) := hide (by rw [← hW]; simp)
      have i0 : Has w1 (w.heap.size) 16 (fun o => .int .i64 (b o)) := by (rw [← hW]; repeat (first | (refine Has.new ?_ rfl; simp; done) | refine Has.alloc ?_ _))
      have ci0 := i0.1; have fi0 := i0.2.1; have zi0 := i0.2.2
      clear hW
      go_upto_region 4 with (first | (go_at_call 27; (with_reducible refine (isBoard_any _ _).mono ?_); rintro e w2 ⟨rfl, hb2⟩; have hB' : Below w.heap.size w w2 := below_go (by repeat (first | (with_reducible exact Below.refl _ _) | (with_reducible assumption) | (with_reducible refine below_go ?_ (by with_reducible assumption)) | (with_reducible refine below_new ?_ _) | ((with_reducible refine below_put ?_ ?_ _); rotate_left; (dsimp only; omega)) | (with_reducible refine Below.drew ?_) | (with_reducible refine below_dn ?_ _))) hb2; have i0' : Has w2 (w.heap.size) 16 _ := Has.call (by repeat (first | (with_reducible assumption) | (with_reducible apply Has.set) | ((with_reducible apply Has.other); (case hne => (dsimp only; omega))) | (with_reducible apply Has.alloc) | (with_reducible apply Has.drew) | (with_reducible apply Has.drewN))) hb2; clear hB hb2; have hB := hB'; clear hB'; (try clear fi0); (try clear zi0); (try clear ci0); clear i0; have i0 := i0'; clear i0'; have ci0 := i0.1; have fi0 := i0.2.1; have zi0 := i0.2.2) | (go_at_call 73; refine (isDirection_any _ _).mono ?_; rintro e w1 ⟨rfl, rfl⟩) | (go_at_call 74; (with_reducible refine (slide_any _ H.out _ hn _).mono ?_); rintro e w2 ⟨rfl, hb2⟩; have hB' : Below w.heap.size w w2 := below_go (by repeat (first | (with_reducible exact Below.refl _ _) | (with_reducible assumption) | (with_reducible refine below_go ?_ (by with_reducible assumption)) | (with_reducible refine below_new ?_ _) | ((with_reducible refine below_put ?_ ?_ _); rotate_left; (dsimp only; omega)) | (with_reducible refine Below.drew ?_) | (with_reducible refine below_dn ?_ _))) hb2; have i0' : Has w2 (w.heap.size) 16 _ := Has.call (by repeat (first | (with_reducible assumption) | (with_reducible apply Has.set) | ((with_reducible apply Has.other); (case hne => (dsimp only; omega))) | (with_reducible apply Has.alloc) | (with_reducible apply Has.drew) | (with_reducible apply Has.drewN))) hb2; clear hB hb2; have hB := hB'; clear hB'; (try clear fi0); (try clear zi0); (try clear ci0); clear i0; have i0 := i0'; clear i0'; have ci0 := i0.1; have fi0 := i0.2.1; have zi0 := i0.2.2) | (refine load_Board rfl _ rfl _ _ rfl (by repeat (first | (with_reducible assumption) | (with_reducible apply Has.set) | ((with_reducible apply Has.other); (case hne => (dsimp only; omega))) | (with_reducible apply Has.alloc) | (with_reducible apply Has.drew) | (with_reducible apply Has.drewN))) (by omega) ?_))
      go_wp2
      go_ret2
      exact ⟨rfl, (by repeat (first | (with_reducible exact Below.refl _ _) | (with_reducible assumption) | (with_reducible refine below_go ?_ (by with_reducible assumption)) | (with_reducible refine below_new ?_ _) | ((with_reducible refine below_put ?_ ?_ _); rotate_left; (dsimp only; omega)) | (with_reducible refine Below.drew ?_) | (with_reducible refine below_dn ?_ _)))⟩

set_option maxHeartbeats 8000000 in
set_option maxRecDepth 100000 in
theorem specMergersOf_any (b : Nat → Int) (d : Int) (w : World) : Calls Try.prog 32 #[.agg #[.int .i64 (b 0), .int .i64 (b 1), .int .i64 (b 2), .int .i64 (b 3), .int .i64 (b 4), .int .i64 (b 5), .int .i64 (b 6), .int .i64 (b 7), .int .i64 (b 8), .int .i64 (b 9), .int .i64 (b 10), .int .i64 (b 11), .int .i64 (b 12), .int .i64 (b 13), .int .i64 (b 14), .int .i64 (b 15)], .int .i64 d] w fun e w' => e = .returned (.tuple #[.int .i64 (zr (bdB b && inB d 0 3) (mgTo b d.toNat 4)), .bool (bdB b && inB d 0 3)]) ∧ Below w.heap.size w w' := by
  cases hb : bdB b
  · simp only [Bool.false_and, zr_false]
    go_enter Try.func32, Try.ntmps32
    go_upto_region 1 with (fail)
    generalize hW : w.alloc _ = w1
    have hB : Below w.heap.size w w1 := by (rw [← hW]; exact (by repeat (first | (with_reducible exact Below.refl _ _) | (with_reducible assumption) | (with_reducible refine below_go ?_ (by with_reducible assumption)) | (with_reducible refine below_new ?_ _) | ((with_reducible refine below_put ?_ ?_ _); rotate_left; (dsimp only; omega)) | (with_reducible refine Below.drew ?_) | (with_reducible refine below_dn ?_ _))))
    have hsz : Hid (w1.heap.size = w.heap.size + 1) := hide (by rw [← hW]; simp)
    have i0 : Has w1 (w.heap.size) 16 (fun o => .int .i64 (b o)) := by (rw [← hW]; repeat (first | (refine Has.new ?_ rfl; simp; done) | refine Has.alloc ?_ _))
    have ci0 := i0.1; have fi0 := i0.2.1; have zi0 := i0.2.2
    clear hW
    go_wp2_with (first | (go_at_call 64; (with_reducible refine (l2Board_any _ _).mono ?_); rintro e w2 ⟨rfl, hb2⟩; have hB' : Below w.heap.size w w2 := below_go (by repeat (first | (with_reducible exact Below.refl _ _) | (with_reducible assumption) | (with_reducible refine below_go ?_ (by with_reducible assumption)) | (with_reducible refine below_new ?_ _) | ((with_reducible refine below_put ?_ ?_ _); rotate_left; (dsimp only; omega)) | (with_reducible refine Below.drew ?_) | (with_reducible refine below_dn ?_ _))) hb2; have i0' : Has w2 (w.heap.size) 16 _ := Has.call (by repeat (first | (with_reducible assumption) | (with_reducible apply Has.set) | ((with_reducible apply Has.other); (case hne => (dsimp only; omega))) | (with_reducible apply Has.alloc) | (with_reducible apply Has.drew) | (with_reducible apply Has.drewN))) hb2; clear hB hb2; have hB := hB'; clear hB'; (try clear fi0); (try clear zi0); (try clear ci0); clear i0; have i0 := i0'; clear i0'; have ci0 := i0.1; have fi0 := i0.2.1; have zi0 := i0.2.2) | (go_at_call 75; refine (l2Side_any _ _).mono ?_; rintro e w1 ⟨rfl, rfl⟩) | (refine load_Board rfl _ rfl _ _ rfl (by repeat (first | (with_reducible assumption) | (with_reducible apply Has.set) | ((with_reducible apply Has.other); (case hne => (dsimp only; omega))) | (with_reducible apply Has.alloc) | (with_reducible apply Has.drew) | (with_reducible apply Has.drewN))) (by omega) ?_))
    go_ret2
    exact ⟨rfl, (by repeat (first | (with_reducible exact Below.refl _ _) | (with_reducible assumption) | (with_reducible refine below_go ?_ (by with_reducible assumption)) | (with_reducible refine below_new ?_ _) | ((with_reducible refine below_put ?_ ?_ _); rotate_left; (dsimp only; omega)) | (with_reducible refine Below.drew ?_) | (with_reducible refine below_dn ?_ _)))⟩
  · cases hd : inB d 0 3
    · simp only [Bool.and_false, zr_false]
      go_enter Try.func32, Try.ntmps32
      go_upto_region 1 with (fail)
      generalize hW : w.alloc _ = w1
      have hB : Below w.heap.size w w1 := by (rw [← hW]; exact (by repeat (first | (with_reducible exact Below.refl _ _) | (with_reducible assumption) | (with_reducible refine below_go ?_ (by with_reducible assumption)) | (with_reducible refine below_new ?_ _) | ((with_reducible refine below_put ?_ ?_ _); rotate_left; (dsimp only; omega)) | (with_reducible refine Below.drew ?_) | (with_reducible refine below_dn ?_ _))))
      have hsz : Hid (w1.heap.size = w.heap.size + 1) := hide (by rw [← hW]; simp)
      have i0 : Has w1 (w.heap.size) 16 (fun o => .int .i64 (b o)) := by (rw [← hW]; repeat (first | (refine Has.new ?_ rfl; simp; done) | refine Has.alloc ?_ _))
      have ci0 := i0.1; have fi0 := i0.2.1; have zi0 := i0.2.2
      clear hW
      go_wp2_with (first | (go_at_call 64; (with_reducible refine (l2Board_any _ _).mono ?_); rintro e w2 ⟨rfl, hb2⟩; have hB' : Below w.heap.size w w2 := below_go (by repeat (first | (with_reducible exact Below.refl _ _) | (with_reducible assumption) | (with_reducible refine below_go ?_ (by with_reducible assumption)) | (with_reducible refine below_new ?_ _) | ((with_reducible refine below_put ?_ ?_ _); rotate_left; (dsimp only; omega)) | (with_reducible refine Below.drew ?_) | (with_reducible refine below_dn ?_ _))) hb2; have i0' : Has w2 (w.heap.size) 16 _ := Has.call (by repeat (first | (with_reducible assumption) | (with_reducible apply Has.set) | ((with_reducible apply Has.other); (case hne => (dsimp only; omega))) | (with_reducible apply Has.alloc) | (with_reducible apply Has.drew) | (with_reducible apply Has.drewN))) hb2; clear hB hb2; have hB := hB'; clear hB'; (try clear fi0); (try clear zi0); (try clear ci0); clear i0; have i0 := i0'; clear i0'; have ci0 := i0.1; have fi0 := i0.2.1; have zi0 := i0.2.2) | (go_at_call 75; refine (l2Side_any _ _).mono ?_; rintro e w1 ⟨rfl, rfl⟩) | (refine load_Board rfl _ rfl _ _ rfl (by repeat (first | (with_reducible assumption) | (with_reducible apply Has.set) | ((with_reducible apply Has.other); (case hne => (dsimp only; omega))) | (with_reducible apply Has.alloc) | (with_reducible apply Has.drew) | (with_reducible apply Has.drewN))) (by omega) ?_))
      go_ret2
      exact ⟨rfl, (by repeat (first | (with_reducible exact Below.refl _ _) | (with_reducible assumption) | (with_reducible refine below_go ?_ (by with_reducible assumption)) | (with_reducible refine below_new ?_ _) | ((with_reducible refine below_put ?_ ?_ _); rotate_left; (dsimp only; omega)) | (with_reducible refine Below.drew ?_) | (with_reducible refine below_dn ?_ _)))⟩
    · obtain ⟨n, hn, rfl⟩ := dir_nat hd
      have H := hide (bdB_in hb)
      simp only [Bool.and_self, zr_true, Int.toNat_natCast]
      have m0 := mnB_range (b := b); have m1 := mnB_range (b := slB b n)
      have HM := hide (mgTo_many H.out hn)
      have s1 : IntKind.i64.wrap (mnB b 16 - mnB (slB b n) 16) = mgTo b n 4 := by rw [IntWalk.i64_in _ (by omega), HM.out]
      go_enter Try.func32, Try.ntmps32
      go_upto_region 1 with (fail)
      generalize hW : w.alloc _ = w1
      have hB : Below w.heap.size w w1 := by (rw [← hW]; exact (by repeat (first | (with_reducible exact Below.refl _ _) | (with_reducible assumption) | (with_reducible refine below_go ?_ (by with_reducible assumption)) | (with_reducible refine below_new ?_ _) | ((with_reducible refine below_put ?_ ?_ _); rotate_left; (dsimp only; omega)) | (with_reducible refine Below.drew ?_) | (with_reducible refine below_dn ?_ _))))
      have hsz : Hid (w1.heap.size = w.heap.size + 1) := hide (by rw [← hW]; simp)
      have i0 : Has w1 (w.heap.size) 16 (fun o => .int .i64 (b o)) := by (rw [← hW]; repeat (first | (refine Has.new ?_ rfl; simp; done) | refine Has.alloc ?_ _))
      have ci0 := i0.1; have fi0 := i0.2.1; have zi0 := i0.2.2
      clear hW
      go_upto_region 4 with (first | (go_at_call 64; (with_reducible refine (l2Board_any _ _).mono ?_); rintro e w2 ⟨rfl, hb2⟩; have hB' : Below w.heap.size w w2 := below_go (by repeat (first | (with_reducible exact Below.refl _ _) | (with_reducible assumption) | (with_reducible refine below_go ?_ (by with_reducible assumption)) | (with_reducible refine below_new ?_ _) | ((with_reducible refine below_put ?_ ?_ _); rotate_left; (dsimp only; omega)) | (with_reducible refine Below.drew ?_) | (with_reducible refine below_dn ?_ _))) hb2; have i0' : Has w2 (w.heap.size) 16 _ := Has.call (by repeat (first | (with_reducible assumption) | (with_reducible apply Has.set) | ((with_reducible apply Has.other); (case hne => (dsimp only; omega))) | (with_reducible apply Has.alloc) | (with_reducible apply Has.drew) | (with_reducible apply Has.drewN))) hb2; clear hB hb2; have hB := hB'; clear hB'; (try clear fi0); (try clear zi0); (try clear ci0); clear i0; have i0 := i0'; clear i0'; have ci0 := i0.1; have fi0 := i0.2.1; have zi0 := i0.2.2) | (go_at_call 75; refine (l2Side_any _ _).mono ?_; rintro e w1 ⟨rfl, rfl⟩) | (go_at_call 80; (with_reducible refine (l2Slide_any _ H.out _ hn _).mono ?_); rintro e w2 ⟨rfl, hb2⟩; have hB' : Below w.heap.size w w2 := below_go (by repeat (first | (with_reducible exact Below.refl _ _) | (with_reducible assumption) | (with_reducible refine below_go ?_ (by with_reducible assumption)) | (with_reducible refine below_new ?_ _) | ((with_reducible refine below_put ?_ ?_ _); rotate_left; (dsimp only; omega)) | (with_reducible refine Below.drew ?_) | (with_reducible refine below_dn ?_ _))) hb2; have i0' : Has w2 (w.heap.size) 16 _ := Has.call (by repeat (first | (with_reducible assumption) | (with_reducible apply Has.set) | ((with_reducible apply Has.other); (case hne => (dsimp only; omega))) | (with_reducible apply Has.alloc) | (with_reducible apply Has.drew) | (with_reducible apply Has.drewN))) hb2; clear hB hb2; have hB := hB'; clear hB'; (try clear fi0); (try clear zi0); (try clear ci0); clear i0; have i0 := i0'; clear i0'; have ci0 := i0.1; have fi0 := i0.2.1; have zi0 := i0.2.2) | (refine load_Board rfl _ rfl _ _ rfl (by repeat (first | (with_reducible assumption) | (with_reducible apply Has.set) | ((with_reducible apply Has.other); (case hne => (dsimp only; omega))) | (with_reducible apply Has.alloc) | (with_reducible apply Has.drew) | (with_reducible apply Has.drewN))) (by omega) ?_))
      have hz1 : w.heap.size < w2.heap.size := zi0
      generalize hW : (World.alloc w2 _) = w1
      have hB' : Below w.heap.size w w1 := by (rw [← hW]; exact (by repeat (first | (with_reducible exact Below.refl _ _) | (with_reducible assumption) | (with_reducible refine below_go ?_ (by with_reducible assumption)) | (with_reducible refine below_new ?_ _) | ((with_reducible refine below_put ?_ ?_ _); rotate_left; (dsimp only; omega)) | (with_reducible refine Below.drew ?_) | (with_reducible refine below_dn ?_ _))))
      have i0' := Has.at hW (B := w.heap.size) (n := 16) (by repeat (first | (with_reducible assumption) | (with_reducible apply Has.set) | ((with_reducible apply Has.other); (case hne => (dsimp only; omega))) | (with_reducible apply Has.alloc) | (with_reducible apply Has.drew) | (with_reducible apply Has.drewN)))
      have j0 := Has.at hW (n := 16) (Has.new' rfl)
      try simp only [World.size_alloc] at j0
      clear hW; clear hB; have hB := hB'; clear hB'; (try clear fi0); (try clear zi0); (try clear ci0); clear i0; have i0 := i0'; clear i0'; have ci0 := i0.1; have fi0 := i0.2.1; have zi0 := i0.2.2; have cj0 := j0.1; have fj0 := j0.2.1; have zj0 := j0.2.2
      generalize hS : w2.heap.size = B1 at *
      clear hS
      have j0 := j0.congr (d := fun o => .int .i64 (slB b n o)) (fun o ho => by rcases p16 ho with rfl | rfl | rfl | rfl | rfl | rfl | rfl | rfl | rfl | rfl | rfl | rfl | rfl | rfl | rfl | rfl <;> rfl)
      clear cj0 fj0 fi0
      have ci0 := i0.1; have cj0 := j0.1
      go_region_held3 (fun w' => (∀ o, o < 16 → w'.cell? ⟨w.heap.size, o, none⟩ = some (.int .i64 (b o))) ∧ (∀ o, o < 16 → w'.cell? ⟨B1, o, none⟩ = some (.int .i64 (slB b n o)))) (first
        | (with_reducible exact keepB i0 j0)
        | (with_reducible exact keepB (Has.drew i0) (Has.drew j0)))
        (first | (go_at_call 87; (with_reducible refine (l2Many_any _ _).mono ?_); rintro e w2 ⟨rfl, hb2⟩; have hB' : Below w.heap.size w w2 := below_go (by repeat (first | (with_reducible exact Below.refl _ _) | (with_reducible assumption) | (with_reducible refine below_go ?_ (by with_reducible assumption)) | (with_reducible refine below_new ?_ _) | ((with_reducible refine below_put ?_ ?_ _); rotate_left; (dsimp only; omega)) | (with_reducible refine Below.drew ?_) | (with_reducible refine below_dn ?_ _))) hb2; have i0' : Has w2 (w.heap.size) 16 _ := Has.call (by repeat (first | (with_reducible assumption) | (with_reducible apply Has.set) | ((with_reducible apply Has.other); (case hne => (dsimp only; omega))) | (with_reducible apply Has.alloc) | (with_reducible apply Has.drew) | (with_reducible apply Has.drewN))) hb2; have j0' : Has w2 (B1) 16 _ := Has.call (by repeat (first | (with_reducible assumption) | (with_reducible apply Has.set) | ((with_reducible apply Has.other); (case hne => (dsimp only; omega))) | (with_reducible apply Has.alloc) | (with_reducible apply Has.drew) | (with_reducible apply Has.drewN))) hb2; clear hB hb2; have hB := hB'; clear hB'; (try clear fi0); (try clear zi0); (try clear ci0); clear i0; have i0 := i0'; clear i0'; have ci0 := i0.1; have fi0 := i0.2.1; have zi0 := i0.2.2; (try clear fj0); (try clear zj0); (try clear cj0); clear j0; have j0 := j0'; clear j0'; have cj0 := j0.1; have fj0 := j0.2.1; have zj0 := j0.2.2))
      all_goals
        go_wp2
        go_ret2
        exact ⟨rfl, (by repeat (first | (with_reducible exact Below.refl _ _) | (with_reducible assumption) | (with_reducible refine below_go ?_ (by with_reducible assumption)) | (with_reducible refine below_new ?_ _) | ((with_reducible refine below_put ?_ ?_ _); rotate_left; (dsimp only; omega)) | (with_reducible refine Below.drew ?_) | (with_reducible refine below_dn ?_ _)))⟩

end Go.Proofs.Ytegdnfmhhigjfaa

namespace Go.Proofs.Ytegdnfmhhigjfaa
open Go.RowKit

set_option maxHeartbeats 4000000 in
set_option maxRecDepth 100000 in
theorem sum_any (b : Nat → Int) (hb : In17 b 16) (w : World) :
    Calls Try.prog 76 #[.agg #[.int .i64 (b 0), .int .i64 (b 1), .int .i64 (b 2), .int .i64 (b 3), .int .i64 (b 4), .int .i64 (b 5), .int .i64 (b 6), .int .i64 (b 7), .int .i64 (b 8), .int .i64 (b 9), .int .i64 (b 10), .int .i64 (b 11), .int .i64 (b 12), .int .i64 (b 13), .int .i64 (b 14), .int .i64 (b 15)]] w fun e w' => e = .returned (.int .i64 (smT b 16)) ∧ Below w.heap.size w w' := by
  have HB := hide hb
  clear hb
  go_enter Try.func76, Try.ntmps76
  go_upto_region 2 with (fail)
  generalize hW : w.alloc _ = w1
  have hB : Below w.heap.size w w1 := by (rw [← hW]; exact (by repeat (first | (with_reducible exact Below.refl _ _) | (with_reducible assumption) | (with_reducible refine below_go ?_ (by with_reducible assumption)) | (with_reducible refine below_new ?_ _) | ((with_reducible refine below_put ?_ ?_ _); rotate_left; (dsimp only; omega)) | (with_reducible refine Below.drew ?_) | (with_reducible refine below_dn ?_ _))))
  have hsz : Hid (w1.heap.size = w.heap.size + 1) := hide (by rw [← hW]; simp)
  have i0 : Has w1 (w.heap.size) 16 (fun o => .int .i64 (b o)) := by (rw [← hW]; repeat (first | (refine Has.new ?_ rfl; simp; done) | refine Has.alloc ?_ _))
  have ci0 := i0.1; have fi0 := i0.2.1; have zi0 := i0.2.2
  clear hW
  go_wp2_with (go_at_call 103; (with_reducible refine (cells_any _).mono ?_); rintro e w2 ⟨g, cap, rfl, hg, hcap, iC, hb2⟩; have hB' : Below w.heap.size w w2 := below_go (by repeat (first | (with_reducible exact Below.refl _ _) | (with_reducible assumption) | (with_reducible refine below_go ?_ (by with_reducible assumption)) | (with_reducible refine below_new ?_ _) | ((with_reducible refine below_put ?_ ?_ _); rotate_left; (dsimp only; omega)) | (with_reducible refine Below.drew ?_) | (with_reducible refine below_dn ?_ _))) hb2; have i0' : Has w2 (w.heap.size) 16 _ := Has.call (by repeat (first | (with_reducible assumption) | (with_reducible apply Has.set) | ((with_reducible apply Has.other); (case hne => (dsimp only; omega))) | (with_reducible apply Has.alloc) | (with_reducible apply Has.drew) | (with_reducible apply Has.drewN))) hb2; clear hB hb2; have hB := hB'; clear hB'; (try clear fi0); (try clear zi0); (try clear ci0); clear i0; have i0 := i0'; clear i0'; have ci0 := i0.1; have fi0 := i0.2.1; have zi0 := i0.2.2)
  have hg1 : w.heap.size < g := by have := hsz.out; omega
  clear ci0 fi0 zi0 hsz
  go_loopw [3, 8] (fun v3 v8 wr => ∃ k : Nat, k ≤ 16 ∧ v8 = .int .i64 k ∧ v3 = .int .i64 (smT b k) ∧ Below w.heap.size w wr ∧ Has wr w.heap.size 16 (fun o => .int .i64 (b o)) ∧ Has wr g 32 (fun p => .int .i64 (cellC p))) (fun _ i _ => 16 - (intOf i).toNat)
  case atStart => exact ⟨0, by omega, rfl, rfl, hB, i0, iC⟩
  case round =>
    clear hB i0 iC
    obtain ⟨k, hk, rfl, rfl, hB, i0, iC⟩ := hrel
    by_cases h4 : k = 16
    · subst h4
      go_wp2
      go_ret
      exact ⟨rfl, hB⟩
    · have hlt : k < 16 := by omega
      obtain ⟨x, y, hx0, hx3, hy0, hy3, _, hxy, q1, q2⟩ := cell_xy iC hlt
      obtain ⟨hb0, hb1⟩ := HB.out k hlt
      obtain ⟨s0, s1⟩ := smT_le HB.out k hk
      obtain ⟨t0, t1⟩ := wth_le hb1
      have t0' : 0 ≤ wz (b k) := t0
      have t1' : wz (b k) ≤ 262144 := t1
      have ci0 := i0.1; have fi0 := i0.2.1; have zi0 := i0.2.2
      go_wp2_with (first | (go_at_call 98; (with_reducible refine (at_xy _ _ _ _ hx0 hx3 hy0 hy3 hxy _).mono ?_); rintro e w2 ⟨rfl, hb2⟩; have hB' : Below w.heap.size w w2 := below_go (by repeat (first | (with_reducible exact Below.refl _ _) | (with_reducible assumption) | (with_reducible refine below_go ?_ (by with_reducible assumption)) | (with_reducible refine below_new ?_ _) | ((with_reducible refine below_put ?_ ?_ _); rotate_left; (dsimp only; omega)) | (with_reducible refine Below.drew ?_) | (with_reducible refine below_dn ?_ _))) hb2; have i0' : Has w2 (w.heap.size) 16 _ := Has.call (by repeat (first | (with_reducible assumption) | (with_reducible apply Has.set) | ((with_reducible apply Has.other); (case hne => (dsimp only; omega))) | (with_reducible apply Has.alloc) | (with_reducible apply Has.drew) | (with_reducible apply Has.drewN))) hb2; have iC' : Has w2 (g) 32 _ := Has.call (by repeat (first | (with_reducible assumption) | (with_reducible apply Has.set) | ((with_reducible apply Has.other); (case hne => (dsimp only; omega))) | (with_reducible apply Has.alloc) | (with_reducible apply Has.drew) | (with_reducible apply Has.drewN))) hb2; clear hB hb2; have hB := hB'; clear hB'; (try clear fi0); (try clear zi0); (try clear ci0); clear i0; have i0 := i0'; clear i0'; have ci0 := i0.1; have fi0 := i0.2.1; have zi0 := i0.2.2; (try clear fiC); (try clear ziC); (try clear ciC); clear iC; have iC := iC'; clear iC'; have ciC := iC.1; have fiC := iC.2.1; have ziC := iC.2.2) | (go_at_call 118; refine (worth_any _ hb0 (by omega) _).mono ?_; rintro e w1 ⟨rfl, rfl⟩) | (refine load_int rfl _ rfl _ _ rfl (by repeat (first | (with_reducible assumption) | (with_reducible apply Has.set) | ((with_reducible apply Has.other); (case hne => (dsimp only; omega))) | (with_reducible apply Has.alloc) | (with_reducible apply Has.drew) | (with_reducible apply Has.drewN))) (by omega) ?_))
      go_roundw
      case rel => exact ⟨k + 1, by omega, by go_num, rfl, hB, i0, iC⟩
      case measure => simp [intOf]; omega

end Go.Proofs.Ytegdnfmhhigjfaa

namespace Go.Proofs.Ytegdnfmhhigjfaa
open Go.RowKit

set_option maxHeartbeats 4000000 in
set_option maxRecDepth 100000 in
theorem l2Sum_any (b : Nat → Int) (hb : In17 b 16) (w : World) :
    Calls Try.prog 88 #[.agg #[.int .i64 (b 0), .int .i64 (b 1), .int .i64 (b 2), .int .i64 (b 3), .int .i64 (b 4), .int .i64 (b 5), .int .i64 (b 6), .int .i64 (b 7), .int .i64 (b 8), .int .i64 (b 9), .int .i64 (b 10), .int .i64 (b 11), .int .i64 (b 12), .int .i64 (b 13), .int .i64 (b 14), .int .i64 (b 15)]] w fun e w' => e = .returned (.int .i64 (smT b 16)) ∧ Below w.heap.size w w' := by
  have HB := hide hb
  clear hb
  go_enter Try.func88, Try.ntmps88
  go_wp2_with fail
  generalize hW : w.alloc _ = w1
  have hB : Below w.heap.size w w1 := by (rw [← hW]; exact (by repeat (first | (with_reducible exact Below.refl _ _) | (with_reducible assumption) | (with_reducible refine below_go ?_ (by with_reducible assumption)) | (with_reducible refine below_new ?_ _) | ((with_reducible refine below_put ?_ ?_ _); rotate_left; (dsimp only; omega)) | (with_reducible refine Below.drew ?_) | (with_reducible refine below_dn ?_ _))))
  have hsz : Hid (w1.heap.size = w.heap.size + 1) := hide (by rw [← hW]; simp)
  have i0 : Has w1 (w.heap.size) 16 (fun o => .int .i64 (b o)) := by (rw [← hW]; repeat (first | (refine Has.new ?_ rfl; simp; done) | refine Has.alloc ?_ _))
  have ci0 := i0.1; have fi0 := i0.2.1; have zi0 := i0.2.2
  clear hW
  clear ci0 fi0 zi0 hsz
  go_loopw [3, 4] (fun v3 v4 wr => ∃ r : Nat, r ≤ 4 ∧ v4 = .int .i64 r ∧ v3 = .int .i64 (smT b (4 * r)) ∧ Below w.heap.size w wr ∧ Has wr w.heap.size 16 (fun o => .int .i64 (b o))) (fun _ i _ => 4 - (intOf i).toNat)
  case atStart => exact ⟨0, by omega, rfl, rfl, hB, i0⟩
  case round =>
    clear hB i0
    obtain ⟨r, hr, rfl, rfl, hB, i0⟩ := hrel
    by_cases h4 : r = 4
    · subst h4
      go_wp2
      go_ret
      exact ⟨rfl, hB⟩
    · have hlt : r < 4 := by omega
      have hlti : (r : Int) < 4 := by omega
      have hdr : decide ((r : Int) < 4) = true := decide_eq_true hlti
      go_wp2_with fail
      go_loopw [3, 5] (fun v3 v5 ws => ∃ c : Nat, c ≤ 4 ∧ v5 = .int .i64 c ∧ v3 = .int .i64 (smT b (4 * r + c)) ∧ Below w.heap.size w ws ∧ Has ws w.heap.size 16 (fun o => .int .i64 (b o))) (fun _ i _ => 4 - (intOf i).toNat)
      case atStart => exact ⟨0, by omega, rfl, rfl, hB, i0⟩
      case round =>
        clear hB i0
        obtain ⟨c, hc, rfl, rfl, hB, i0⟩ := hrel
        by_cases h4 : c = 4
        · subst h4
          go_wp2
          go_roundw
          case rel => exact ⟨r + 1, by omega, by go_num, by rw [Nat.mul_succ], hB, i0⟩
          case measure => simp [intOf]; omega
        · have hltc : c < 4 := by omega
          obtain ⟨hb0, hb1⟩ := HB.out (4 * r + c) (by omega)
          obtain ⟨s0, s1⟩ := smT_le HB.out (4 * r + c) (by omega)
          have q1 : wr.cell? ⟨w.heap.size, r * 4 + c, none⟩ = some (.int .i64 (b (4 * r + c))) := (i0.1 _ (by omega)).trans (by rw [Nat.mul_comm])
          by_cases hz : b (4 * r + c) = 0
          · go_wp2
            go_roundw
            case rel => exact ⟨c + 1, by omega, by go_num, by rw [← Nat.add_assoc, smT, hz]; simp [wth], hB, i0⟩
            case measure => simp [intOf]; omega
          · have ht0 : 0 < b (4 * r + c) := by omega
            obtain ⟨w0, w1⟩ := wrt_le (t := b (4 * r + c)) (by omega)
            go_wp2_with (first | (go_at_call 125; refine (l2Worth_any _ (by omega) (by omega) _).mono ?_; rintro e w1 ⟨rfl, rfl⟩))
            go_roundw
            case rel => exact ⟨c + 1, by omega, by go_num, by rw [← Nat.add_assoc, smT, wth, if_neg hz], hB, i0⟩
            case measure => simp [intOf]; omega

end Go.Proofs.Ytegdnfmhhigjfaa
