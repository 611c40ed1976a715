/-
  Comparison of boards by '==' and '!='.
-/
import Derived.Test.YtegdnfmhhigjfaaQBoard1
import Derived.Test.YtegdnfmhhigjfaaQTiles
import Derived.Deep.Cut
import Derived.Test.YtegdnfmhhigjfaaQBase
import Derived.Test.YtegdnfmhhigjfaaLine2
import Derived.Test.YtegdnfmhhigjfaaSlide
import Derived.Deep.RegionHeld3
namespace Go.Proofs.Ytegdnfmhhigjfaa
open Go.RowKit

def rowOf (b : Nat → Int) (i : Nat) : Nat → Int := fun k => b (4 * i + k)
theorem eqB_rows (a b : Nat → Int) : [0, 1, 2, 3].all (fun i => allEq (rowOf a i) (rowOf b i) 4) = eqB a b := by
  rw [Bool.eq_iff_iff, eqB_true, List.all_eq_true]
  constructor
  · intro h p hp
    have h1 := h (p / 4) (by
      rcases (by omega : p / 4 = 0 ∨ p / 4 = 1 ∨ p / 4 = 2 ∨ p / 4 = 3) with e | e | e | e <;> simp [e])
    have h2 := of_decide_eq_true h1 (p % 4) (by omega)
    simp only [rowOf] at h2
    rwa [show 4 * (p / 4) + p % 4 = p by omega] at h2
  · intro h i hi
    have hi4 : i < 4 := by
      simp only [List.mem_cons, List.not_mem_nil, or_false] at hi
      omega
    exact decide_eq_true fun k hk => h _ (by omega)

theorem part_A44 (a : Nat → Int) (i : Nat) (hi : i < 4) (w : World) : (part 24 (#[.int .i64 (a 0), .int .i64 (a 1), .int .i64 (a 2), .int .i64 (a 3), .int .i64 (a 4), .int .i64 (a 5), .int .i64 (a 6), .int .i64 (a 7), .int .i64 (a 8), .int .i64 (a 9), .int .i64 (a 10), .int .i64 (a 11), .int .i64 (a 12), .int .i64 (a 13), .int .i64 (a 14), .int .i64 (a 15)]) (i * 4)).run Try.prog w = .ok (.agg #[.int .i64 ((rowOf a i) 0), .int .i64 ((rowOf a i) 1), .int .i64 ((rowOf a i) 2), .int .i64 ((rowOf a i) 3)]) w := by
  rcases (by omega : i = 0 ∨ i = 1 ∨ i = 2 ∨ i = 3) with rfl | rfl | rfl | rfl <;> kernel_rfl

theorem equalIn_A44 (d : Nat) (a b : Nat → Int) (w : World) : (Op.equalIn (d + 3) 25 (.agg #[.int .i64 (a 0), .int .i64 (a 1), .int .i64 (a 2), .int .i64 (a 3), .int .i64 (a 4), .int .i64 (a 5), .int .i64 (a 6), .int .i64 (a 7), .int .i64 (a 8), .int .i64 (a 9), .int .i64 (a 10), .int .i64 (a 11), .int .i64 (a 12), .int .i64 (a 13), .int .i64 (a 14), .int .i64 (a 15)]) (.agg #[.int .i64 (b 0), .int .i64 (b 1), .int .i64 (b 2), .int .i64 (b 3), .int .i64 (b 4), .int .i64 (b 5), .int .i64 (b 6), .int .i64 (b 7), .int .i64 (b 8), .int .i64 (b 9), .int .i64 (b 10), .int .i64 (b 11), .int .i64 (b 12), .int .i64 (b 13), .int .i64 (b 14), .int .i64 (b 15)])).run Try.prog w = .ok (eqB a b) w := by
  have u := run_underlying (P := Try.prog) Try.underlying25
  have ea := fun i hi w => part_A44 a i hi w
  have eb := fun i hi w => part_A44 b i hi w
  rw [Op.equalIn]
  simp [u]
  rw [run_eqLoop (fun i => allEq (rowOf a i) (rowOf b i) 4) _ (List.range' 0 4) (fun i hi s => by
    have hi4 : i < 4 := by simpa [List.mem_range'] using hi
    simp only [Sem.run_bind, ea i hi4, eb i hi4, Result.andThen_ok, equalIn_A4]
    cases allEq (rowOf a i) (rowOf b i) 4 <;> rfl)]
  have e : (List.range' 0 4).all (fun i => allEq (rowOf a i) (rowOf b i) 4) = eqB a b := eqB_rows a b
  rw [e]
  cases eqB a b <;> rfl

theorem part_Board (a : Nat → Int) (w : World) : (part 25 (#[.int .i64 (a 0), .int .i64 (a 1), .int .i64 (a 2), .int .i64 (a 3), .int .i64 (a 4), .int .i64 (a 5), .int .i64 (a 6), .int .i64 (a 7), .int .i64 (a 8), .int .i64 (a 9), .int .i64 (a 10), .int .i64 (a 11), .int .i64 (a 12), .int .i64 (a 13), .int .i64 (a 14), .int .i64 (a 15)]) 0).run Try.prog w = .ok (.agg #[.int .i64 (a 0), .int .i64 (a 1), .int .i64 (a 2), .int .i64 (a 3), .int .i64 (a 4), .int .i64 (a 5), .int .i64 (a 6), .int .i64 (a 7), .int .i64 (a 8), .int .i64 (a 9), .int .i64 (a 10), .int .i64 (a 11), .int .i64 (a 12), .int .i64 (a 13), .int .i64 (a 14), .int .i64 (a 15)]) w := by kernel_rfl
theorem fields_Board : ∃ f : Field, (Try.prog.fieldsOf 27).toList = [f] ∧ f.name ≠ "_" ∧ f.type = 25 ∧ f.offset = 0 := by
  unfold Program.fieldsOf
  rw [Try.underlying27]
  exact ⟨_, rfl, by decide, rfl, rfl⟩
theorem equalIn_Board (d : Nat) (a b : Nat → Int) (w : World) : (Op.equalIn (d + 4) 27 (.agg #[.int .i64 (a 0), .int .i64 (a 1), .int .i64 (a 2), .int .i64 (a 3), .int .i64 (a 4), .int .i64 (a 5), .int .i64 (a 6), .int .i64 (a 7), .int .i64 (a 8), .int .i64 (a 9), .int .i64 (a 10), .int .i64 (a 11), .int .i64 (a 12), .int .i64 (a 13), .int .i64 (a 14), .int .i64 (a 15)]) (.agg #[.int .i64 (b 0), .int .i64 (b 1), .int .i64 (b 2), .int .i64 (b 3), .int .i64 (b 4), .int .i64 (b 5), .int .i64 (b 6), .int .i64 (b 7), .int .i64 (b 8), .int .i64 (b 9), .int .i64 (b 10), .int .i64 (b 11), .int .i64 (b 12), .int .i64 (b 13), .int .i64 (b 14), .int .i64 (b 15)])).run Try.prog w = .ok (eqB a b) w := by
  obtain ⟨f, hf, hn, ht, ho⟩ := fields_Board
  rw [run_equalIn_struct w (d + 3) 27 _ _ (by kernel_rfl) (by kernel_rfl), hf]
  simp only [Op.eqFields, hn, ht, ho, Sem.run_bind, part_Board, Result.andThen_ok, equalIn_A44, ne_eq, not_false_eq_true, if_true]
  cases eqB a b <;> rfl
theorem run_eql_Board (a b : Nat → Int) (w : World) : (binOp .eql 27 (.agg #[.int .i64 (a 0), .int .i64 (a 1), .int .i64 (a 2), .int .i64 (a 3), .int .i64 (a 4), .int .i64 (a 5), .int .i64 (a 6), .int .i64 (a 7), .int .i64 (a 8), .int .i64 (a 9), .int .i64 (a 10), .int .i64 (a 11), .int .i64 (a 12), .int .i64 (a 13), .int .i64 (a 14), .int .i64 (a 15)]) (.agg #[.int .i64 (b 0), .int .i64 (b 1), .int .i64 (b 2), .int .i64 (b 3), .int .i64 (b 4), .int .i64 (b 5), .int .i64 (b 6), .int .i64 (b 7), .int .i64 (b 8), .int .i64 (b 9), .int .i64 (b 10), .int .i64 (b 11), .int .i64 (b 12), .int .i64 (b 13), .int .i64 (b 14), .int .i64 (b 15)])).run Try.prog w = .ok (.bool (eqB a b)) w := by
  rw [run_eql_struct]
  rw [show (10000 : Nat) = 9996 + 4 from rfl, equalIn_Board]; rfl
theorem run_neq_Board (a b : Nat → Int) (w : World) : (binOp .neq 27 (.agg #[.int .i64 (a 0), .int .i64 (a 1), .int .i64 (a 2), .int .i64 (a 3), .int .i64 (a 4), .int .i64 (a 5), .int .i64 (a 6), .int .i64 (a 7), .int .i64 (a 8), .int .i64 (a 9), .int .i64 (a 10), .int .i64 (a 11), .int .i64 (a 12), .int .i64 (a 13), .int .i64 (a 14), .int .i64 (a 15)]) (.agg #[.int .i64 (b 0), .int .i64 (b 1), .int .i64 (b 2), .int .i64 (b 3), .int .i64 (b 4), .int .i64 (b 5), .int .i64 (b 6), .int .i64 (b 7), .int .i64 (b 8), .int .i64 (b 9), .int .i64 (b 10), .int .i64 (b 11), .int .i64 (b 12), .int .i64 (b 13), .int .i64 (b 14), .int .i64 (b 15)])).run Try.prog w = .ok (.bool (!eqB a b)) w := by
  rw [run_neq_struct]
  rw [show (10000 : Nat) = 9996 + 4 from rfl, equalIn_Board]; rfl

end Go.Proofs.Ytegdnfmhhigjfaa

namespace Go.Proofs.Ytegdnfmhhigjfaa
open Go.RowKit

def cellC (p : Nat) : Int := if p % 2 = 0 then ((p / 2 / 4 : Nat) : Int) else ((p / 2 % 4 : Nat) : Int)
def cellsL (k : Nat) : List Value := (List.range (2 * k)).map fun p => .int .i64 (cellC p)
theorem cellsL_succ (k : Nat) : cellsL (k + 1) = cellsL k ++ [.int .i64 ((k : Int) / 4), .int .i64 ((k : Int) % 4)] := by
  have e1 : cellC (2 * k) = (k : Int) / 4 := by unfold cellC; rw [if_pos (by omega)]; omega
  have e2 : cellC (2 * k + 1) = (k : Int) % 4 := by unfold cellC; rw [if_neg (by omega)]; omega
  unfold cellsL
  rw [show 2 * (k + 1) = 2 * k + 1 + 1 by omega, List.range_succ, List.range_succ]
  simp [e1, e2]

theorem info_A2 : (Try.prog.info? 53).map (fun i => (i.zero, i.size, i.bytes)) = some (some (.agg #[.int .i64 0, .int .i64 0]), 2, 16) := by kernel_rfl

set_option maxHeartbeats 4000000 in
set_option maxRecDepth 100000 in
theorem cells_own (w : World) : Calls Try.prog 103 #[] w fun e w' => ∃ v, e = .returned v ∧ w'.ownsRow w.heap.size 53 2 v 16 (cellsL 16) ∧ Below w.heap.size w w' := by
  obtain ⟨i0, hi0, hz0, hz1, hz2⟩ := info_parts info_A2
  go_enter Try.func103, Try.ntmps103
  go_wp2
  go_loopw [1, 4] (fun v i wr => ∃ k : Nat, k ≤ 16 ∧ i = .int .i64 k ∧ wr.ownsRow w.heap.size 53 2 v k (cellsL k) ∧ Below w.heap.size w wr) (fun _ i _ => 16 - (intOf i).toNat)
  case atStart => exact ⟨0, by omega, rfl, World.ownsRow_made w #[] 0 (Nat.le_refl _) (Nat.zero_le _) rfl, (by repeat (first | (with_reducible exact Below.refl _ _) | (with_reducible assumption) | (with_reducible refine below_go ?_ (by with_reducible assumption)) | (with_reducible refine below_new ?_ _) | ((with_reducible refine below_put ?_ ?_ _); rotate_left; (dsimp only; omega)) | (with_reducible refine Below.drew ?_) | (with_reducible refine below_dn ?_ _)))⟩
  case round =>
    rename_i v4 _
    obtain ⟨k, hk, rfl, hown, hB⟩ := hrel
    by_cases h4 : k = 16
    · subst h4
      go_wp2
      go_ret
      exact ⟨_, rfl, hown, hB⟩
    · have hlt : k < 16 := by omega
      go_wp2_with (at_builtin; refine wpList_append_own _ rfl (.tmp 7) (.tmp 13) 49 rfl w.heap.size 53 i0 (.agg #[.int .i64 0, .int .i64 0]) 2 16 Try.underlying49 hi0 hz0 hz1 hz2 rfl (by decide) _ k (cellsL k) rfl (hown.alloc _) ⟨wr.heap.size, 0, none⟩ 1 1 [.int .i64 ((k : Int) / 4), .int .i64 ((k : Int) % 4)] rfl rfl ?c1 ?c2 ?c3 ?c4 ?c5 ?_)
      case c1 =>
        intro j u hj
        have hn := Has.new' (w := wr) (cs := #[.int .i64 ((k : Int) / 4), .int .i64 ((k : Int) % 4)]) (T := 53) (n := 2) rfl
        rw [Addr.add_lit]
        rcases (by omega : j = 0 ∨ j = 1 ∨ 2 ≤ j) with rfl | rfl | h
        · simp at hj; subst hj; exact hn.1 0 (by omega)
        · simp at hj; subst hj; exact hn.1 1 (by omega)
        · rw [List.getElem?_eq_none (by simpa using h)] at hj; cases hj
      case c2 => intro u hu; simp at hu; rcases hu with rfl | rfl <;> rfl
      case c3 => unfold maxLen; omega
      case c4 => omega
      case c5 => have := hB.size; simp; omega
      intro v' w1 hown' hgrow _
      have hB1 : Below w.heap.size w w1 := (below_new hB _).grown hgrow (by have := hB.size; simp; omega) (fun q hq => (hown.lt q hq).1)
      rw [← cellsL_succ] at hown'
      clear hown hB hgrow
      go_wp2
      go_roundw
      case rel => exact ⟨k + 1, by omega, by go_num, hown', hB1⟩
      case measure => simp [intOf]; omega

theorem cells_any (w : World) : Calls Try.prog 103 #[] w fun e w' => ∃ g cap, e = .returned (.slice (some ⟨g, 0, none⟩) 16 cap) ∧ w.heap.size ≤ g ∧ 16 ≤ cap ∧ Has w' g 32 (fun p => .int .i64 (cellC p)) ∧ Below w.heap.size w w' := by
  refine (cells_own w).mono ?_
  rintro e w' ⟨v, rfl, hown, hb⟩
  obtain ⟨A, cap, rfl, hcap, hS⟩ := own_sl hown
  obtain ⟨g, rfl, hg, hH⟩ := hS (by omega)
  exact ⟨g, cap, rfl, hg, hcap, hH.congr fun o ho => by unfold cellsL; simp [show o < 32 by omega], hb⟩

end Go.Proofs.Ytegdnfmhhigjfaa

namespace Go.Proofs.Ytegdnfmhhigjfaa
open Go.RowKit

theorem cell_xy {wr : World} {g k : Nat} (hC : Has wr g 32 (fun p => .int .i64 (cellC p))) (hk : k < 16) :
    ∃ x y : Int, 0 ≤ x ∧ x < 4 ∧ 0 ≤ y ∧ y < 4 ∧ Hid (x = (k : Int) / 4 ∧ y = (k : Int) % 4) ∧ Hid (x.toNat * 4 + y.toNat = k) ∧ wr.cell? ⟨g, k * 2, none⟩ = some (.int .i64 x) ∧ wr.cell? ⟨g, k * 2 + 1, none⟩ = some (.int .i64 y) := by
  have e1 : cellC (k * 2) = (k : Int) / 4 := by unfold cellC; rw [if_pos (by omega)]; omega
  have e2 : cellC (k * 2 + 1) = (k : Int) % 4 := by unfold cellC; rw [if_neg (by omega)]; omega
  refine ⟨(k : Int) / 4, (k : Int) % 4, by omega, by omega, by omega, by omega, hide ⟨rfl, rfl⟩, hide (by omega), ?_, ?_⟩
  · exact (hC.1 _ (by omega)).trans (by simp only [e1])
  · exact (hC.1 _ (by omega)).trans (by simp only [e2])

theorem at_xy (B k : Nat) (x y : Int) (hx0 : 0 ≤ x) (hx3 : x < 4) (hy0 : 0 ≤ y) (hy3 : y < 4) (hxy : Hid (x.toNat * 4 + y.toNat = k)) (w : World) :
    Calls Try.prog 98 #[.pointer (some ⟨B, 0, none⟩), .agg #[.int .i64 x, .int .i64 y]] w fun e w' => e = .returned (.pointer (some ⟨B, k, none⟩)) ∧ Below w.heap.size w w' := by
  have h := at_any B x y hx0 hx3 hy0 hy3 w
  rw [hxy.out] at h
  exact h

end Go.Proofs.Ytegdnfmhhigjfaa

namespace Go.Proofs.Ytegdnfmhhigjfaa

def zr (p : Bool) (x : Int) : Int := if p = true then x else 0
theorem zr_true (x : Int) : zr true x = x := rfl
theorem zr_false (x : Int) : zr false x = 0 := rfl

/-- A board that is empty where the arguments were refused. -/
def bz (p : Bool) (f : Nat → Int) : Nat → Int := fun j => zr p (f j)

end Go.Proofs.Ytegdnfmhhigjfaa

namespace Go.Proofs.Ytegdnfmhhigjfaa
open Go.RowKit

theorem bdB_in {b : Nat → Int} (h : bdB b = true) : In17 b 16 := by
  have h' : ∀ i, i < 4 → rowB (b (4 * i)) (b (4 * i + 1)) (b (4 * i + 2)) (b (4 * i + 3)) = true := by
    simp only [bdB, Bool.and_eq_true] at h
    intro i hi
    rcases (by omega : i = 0 ∨ i = 1 ∨ i = 2 ∨ i = 3) with rfl | rfl | rfl | rfl
    · exact h.1
    · exact h.2.1
    · exact h.2.2.1
    · exact h.2.2.2
  intro p hp
  have h2 := h' (p / 4) (by omega)
  simp only [rowB, inB, Bool.and_eq_true, decide_eq_true_eq] at h2
  rcases (by omega : p % 4 = 0 ∨ p % 4 = 1 ∨ p % 4 = 2 ∨ p % 4 = 3) with e | e | e | e
  · rw [show p = 4 * (p / 4) by omega]; exact h2.1
  · rw [show p = 4 * (p / 4) + 1 by omega]; exact h2.2.1
  · rw [show p = 4 * (p / 4) + 2 by omega]; exact h2.2.2.1
  · rw [show p = 4 * (p / 4) + 3 by omega]; exact h2.2.2.2
theorem dir_nat {d : Int} (h : inB d 0 3 = true) : ∃ n : Nat, n < 4 ∧ d = (n : Int) := by
  have h' : 0 ≤ d ∧ d ≤ 3 := by simpa [inB] using h
  exact ⟨d.toNat, by omega, by omega⟩

end Go.Proofs.Ytegdnfmhhigjfaa

namespace Go.Proofs.Ytegdnfmhhigjfaa
open Go.RowKit

def xyP (x y : Int) : Nat := x.toNat * 4 + y.toNat
def tkOk (b : Nat → Int) (x y : Int) : Bool := bdB b && ((inB x 0 3 && inB y 0 3) && !(b (xyP x y) == 0))
def ptOk (b : Nat → Int) (x y t : Int) : Bool := bdB b && ((inB x 0 3 && inB y 0 3) && (inB t 1 17 && b (xyP x y) == 0))
theorem two_x {w : World} {B : Nat} {x y : Value} (h : Has w B 2 (fun o => if o = 0 then x else y)) : w.cell? ⟨B, 0, none⟩ = some x := h.1 0 (by omega)
theorem two_y {w : World} {B : Nat} {x y : Value} (h : Has w B 2 (fun o => if o = 0 then x else y)) : w.cell? ⟨B, 1, none⟩ = some y := h.1 1 (by omega)
theorem Has.cl {w : World} {B n o : Nat} {c : Nat → Value} (h : Has w B n c) (ho : o < n) : w.cell? ⟨B, o, none⟩ = some (c o) := h.1 o ho
theorem keep16 {w' : World} {B0 B1 : Nat} {b : Nat → Int} {x y : Value} (h0 : Has w' B0 16 (fun o => .int .i64 (b o))) (h1 : Has w' B1 2 (fun o => if o = 0 then x else y)) : w'.cell? ⟨B0, 0, none⟩ = some (.int .i64 (b 0)) ∧ w'.cell? ⟨B0, 1, none⟩ = some (.int .i64 (b 1)) ∧ w'.cell? ⟨B0, 2, none⟩ = some (.int .i64 (b 2)) ∧ w'.cell? ⟨B0, 3, none⟩ = some (.int .i64 (b 3)) ∧ w'.cell? ⟨B0, 4, none⟩ = some (.int .i64 (b 4)) ∧ w'.cell? ⟨B0, 5, none⟩ = some (.int .i64 (b 5)) ∧ w'.cell? ⟨B0, 6, none⟩ = some (.int .i64 (b 6)) ∧ w'.cell? ⟨B0, 7, none⟩ = some (.int .i64 (b 7)) ∧ w'.cell? ⟨B0, 8, none⟩ = some (.int .i64 (b 8)) ∧ w'.cell? ⟨B0, 9, none⟩ = some (.int .i64 (b 9)) ∧ w'.cell? ⟨B0, 10, none⟩ = some (.int .i64 (b 10)) ∧ w'.cell? ⟨B0, 11, none⟩ = some (.int .i64 (b 11)) ∧ w'.cell? ⟨B0, 12, none⟩ = some (.int .i64 (b 12)) ∧ w'.cell? ⟨B0, 13, none⟩ = some (.int .i64 (b 13)) ∧ w'.cell? ⟨B0, 14, none⟩ = some (.int .i64 (b 14)) ∧ w'.cell? ⟨B0, 15, none⟩ = some (.int .i64 (b 15)) ∧ w'.cell? ⟨B1, 0, none⟩ = some x ∧ w'.cell? ⟨B1, 1, none⟩ = some y :=
  ⟨Has.cl h0 (by omega), Has.cl h0 (by omega), Has.cl h0 (by omega), Has.cl h0 (by omega), Has.cl h0 (by omega), Has.cl h0 (by omega), Has.cl h0 (by omega), Has.cl h0 (by omega), Has.cl h0 (by omega), Has.cl h0 (by omega), Has.cl h0 (by omega), Has.cl h0 (by omega), Has.cl h0 (by omega), Has.cl h0 (by omega), Has.cl h0 (by omega), Has.cl h0 (by omega), two_x h1, two_y h1⟩
theorem keepU {w' : World} {B0 B1 : Nat} {b : Nat → Int} {x y : Value} (h0 : Has w' B0 16 (fun o => .int .i64 (b o))) (h1 : Has w' B1 2 (fun o => if o = 0 then x else y)) : (∀ o, o < 16 → w'.cell? ⟨B0, o, none⟩ = some (.int .i64 (b o))) ∧ w'.cell? ⟨B1, 0, none⟩ = some x ∧ w'.cell? ⟨B1, 1, none⟩ = some y :=
  ⟨h0.1, two_x h1, two_y h1⟩
theorem cell_in {x y : Int} (h : (inB x 0 3 && inB y 0 3) = true) : 0 ≤ x ∧ x < 4 ∧ 0 ≤ y ∧ y < 4 := by
  simp [inB] at h; omega
theorem Calls.bool_as {P : Program} {f : FuncId} {args : Array Value} {w : World} {a b : Bool} (h : Calls P f args w fun e w' => e = .returned (.bool a) ∧ Below w.heap.size w w') (e : a = b) : Calls P f args w fun e w' => e = .returned (.bool b) ∧ Below w.heap.size w w' := e ▸ h
theorem Calls.bool_eq {P : Program} {f : FuncId} {args : Array Value} {w : World} {a b : Bool} (h : Calls P f args w fun e w' => e = .returned (.bool a) ∧ w = w') (e : a = b) : Calls P f args w fun e w' => e = .returned (.bool b) ∧ w = w' := e ▸ h
theorem l2At_xy (b : Nat → Int) (q : Nat) (x y : Int) (hx0 : 0 ≤ x) (hx3 : x < 4) (hy0 : 0 ≤ y) (hy3 : y < 4) (hxy : Hid (x.toNat * 4 + y.toNat = q)) (w : World) :
    Calls Try.prog 101 #[.agg #[.int .i64 (b 0), .int .i64 (b 1), .int .i64 (b 2), .int .i64 (b 3), .int .i64 (b 4), .int .i64 (b 5), .int .i64 (b 6), .int .i64 (b 7), .int .i64 (b 8), .int .i64 (b 9), .int .i64 (b 10), .int .i64 (b 11), .int .i64 (b 12), .int .i64 (b 13), .int .i64 (b 14), .int .i64 (b 15)], .agg #[.int .i64 x, .int .i64 y]] w fun e w' => e = .returned (.int .i64 (b q)) ∧ Below w.heap.size w w' := by
  have h := l2At_any b x y hx0 hx3 hy0 hy3 w
  rw [hxy.out] at h
  exact h
theorem l2Put_xy (b : Nat → Int) (q : Nat) (x y t : Int) (hx0 : 0 ≤ x) (hx3 : x < 4) (hy0 : 0 ≤ y) (hy3 : y < 4) (hxy : Hid (x.toNat * 4 + y.toNat = q)) (w : World) :
    Calls Try.prog 102 #[.agg #[.int .i64 (b 0), .int .i64 (b 1), .int .i64 (b 2), .int .i64 (b 3), .int .i64 (b 4), .int .i64 (b 5), .int .i64 (b 6), .int .i64 (b 7), .int .i64 (b 8), .int .i64 (b 9), .int .i64 (b 10), .int .i64 (b 11), .int .i64 (b 12), .int .i64 (b 13), .int .i64 (b 14), .int .i64 (b 15)], .agg #[.int .i64 x, .int .i64 y], .int .i64 t] w fun e w' => e = .returned (.agg #[.int .i64 ((putB b q t) 0), .int .i64 ((putB b q t) 1), .int .i64 ((putB b q t) 2), .int .i64 ((putB b q t) 3), .int .i64 ((putB b q t) 4), .int .i64 ((putB b q t) 5), .int .i64 ((putB b q t) 6), .int .i64 ((putB b q t) 7), .int .i64 ((putB b q t) 8), .int .i64 ((putB b q t) 9), .int .i64 ((putB b q t) 10), .int .i64 ((putB b q t) 11), .int .i64 ((putB b q t) 12), .int .i64 ((putB b q t) 13), .int .i64 ((putB b q t) 14), .int .i64 ((putB b q t) 15)]) ∧ Below w.heap.size w w' := by
  have h := l2Put_any b x y t hx0 hx3 hy0 hy3 w
  rw [hxy.out] at h
  exact h

end Go.Proofs.Ytegdnfmhhigjfaa

namespace Go.Proofs.Ytegdnfmhhigjfaa
open Go.RowKit

/-- Whether two boards have one first form. -/
def sfB (b c : Nat → Int) : Bool := eqB (formB b (ffK b 8)) (formB c (ffK c 8))
theorem lit16' (f : Nat → Int) (o : Nat) (ho : o < 16) : (#[Value.int .i64 (f 0), .int .i64 (f 1), .int .i64 (f 2), .int .i64 (f 3), .int .i64 (f 4), .int .i64 (f 5), .int .i64 (f 6), .int .i64 (f 7), .int .i64 (f 8), .int .i64 (f 9), .int .i64 (f 10), .int .i64 (f 11), .int .i64 (f 12), .int .i64 (f 13), .int .i64 (f 14), .int .i64 (f 15)] : Array Value).getD o undef = .int .i64 (f o) := by
  rcases p16 ho with rfl | rfl | rfl | rfl | rfl | rfl | rfl | rfl | rfl | rfl | rfl | rfl | rfl | rfl | rfl | rfl <;> rfl

end Go.Proofs.Ytegdnfmhhigjfaa
