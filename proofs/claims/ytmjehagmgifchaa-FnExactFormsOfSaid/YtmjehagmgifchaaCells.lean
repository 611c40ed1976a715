/-
  Contract: the list of all cells.
-/
import Derived.Test.YtmjehagmgifchaaLine
namespace Go.Proofs.Ytmjehagmgifchaa
open Go.RowKit

def cellC (p : Nat) : Int := if p % 2 = 0 then ((p / 2 / 4 : Nat) : Int) else ((p / 2 % 4 : Nat) : Int)
def cellsL (k : Nat) : List Value := (List.range (2 * k)).map fun p => .int .i64 (cellC p)
theorem cellsL_succ (k : Nat) : cellsL (k + 1) = cellsL k ++ [.int .i64 ((k : Int) / 4), .int .i64 ((k : Int) % 4)] := by
  have e1 : cellC (2 * k) = (k : Int) / 4 := by unfold cellC; rw [if_pos (by omega)]; omega
  have e2 : cellC (2 * k + 1) = (k : Int) % 4 := by unfold cellC; rw [if_neg (by omega)]; omega
  unfold cellsL
  rw [show 2 * (k + 1) = 2 * k + 1 + 1 by omega, List.range_succ, List.range_succ]
  simp [e1, e2]

theorem info_A2 : (Try.prog.info? 66).map (fun i => (i.zero, i.size, i.bytes)) = some (some (.agg #[.int .i64 0, .int .i64 0]), 2, 16) := by kernel_rfl

set_option maxHeartbeats 4000000 in
set_option maxRecDepth 100000 in
theorem cells_own (w : World) : Calls Try.prog 82 #[] w fun e w' => ∃ v, e = .returned v ∧ w'.ownsRow w.heap.size 66 2 v 16 (cellsL 16) ∧ Below w.heap.size w w' := by
  obtain ⟨i0, hi0, hz0, hz1, hz2⟩ := info_parts info_A2
  go_enter Try.func82, Try.ntmps82
  go_wp2
  go_loopw [1, 4] (fun v i wr => ∃ k : Nat, k ≤ 16 ∧ i = .int .i64 k ∧ wr.ownsRow w.heap.size 66 2 v k (cellsL k) ∧ Below w.heap.size w wr) (fun _ i _ => 16 - (intOf i).toNat)
  case atStart => exact ⟨0, by omega, rfl, World.ownsRow_made w #[] 0 (Nat.le_refl _) (Nat.zero_le _) rfl, (by repeat (first | (with_reducible exact Below.refl _ _) | (with_reducible assumption) | (with_reducible refine below_go ?_ (by with_reducible assumption)) | (with_reducible refine below_new ?_ _) | ((with_reducible refine below_put ?_ ?_ _); rotate_left; (dsimp only; omega)) | (with_reducible refine Below.drew ?_) | (with_reducible refine below_dn ?_ _)))⟩
  case round =>
    rename_i v4 _
    obtain ⟨k, hk, rfl, hown, hB⟩ := hrel
    by_cases h4 : k = 16
    · subst h4
      go_wp2
      go_ret
      exact ⟨_, rfl, hown, hB⟩
    · have hlt : k < 16 := by omega
      go_wp2_with (at_builtin; refine wpList_append_own _ rfl (.tmp 7) (.tmp 13) 62 rfl w.heap.size 66 i0 (.agg #[.int .i64 0, .int .i64 0]) 2 16 Try.underlying62 hi0 hz0 hz1 hz2 rfl (by decide) _ k (cellsL k) rfl (hown.alloc _) ⟨wr.heap.size, 0, none⟩ 1 1 [.int .i64 ((k : Int) / 4), .int .i64 ((k : Int) % 4)] rfl rfl ?c1 ?c2 ?c3 ?c4 ?c5 ?_)
      case c1 =>
        intro j u hj
        have hn := Has.new' (w := wr) (cs := #[.int .i64 ((k : Int) / 4), .int .i64 ((k : Int) % 4)]) (T := 66) (n := 2) rfl
        rw [Addr.add_lit]
        rcases (by omega : j = 0 ∨ j = 1 ∨ 2 ≤ j) with rfl | rfl | h
        · simp at hj; subst hj; exact hn.1 0 (by omega)
        · simp at hj; subst hj; exact hn.1 1 (by omega)
        · rw [List.getElem?_eq_none (by simpa using h)] at hj; cases hj
      case c2 => intro u hu; simp at hu; rcases hu with rfl | rfl <;> rfl
      case c3 => unfold maxLen; omega
      case c4 => omega
      case c5 => have := hB.size; simp; omega
      intro v' w1 hown' hgrow _
      have hB1 : Below w.heap.size w w1 := (below_new hB _).grown hgrow (by have := hB.size; simp; omega) (fun q hq => (hown.lt q hq).1)
      rw [← cellsL_succ] at hown'
      clear hown hB hgrow
      go_wp2
      go_roundw
      case rel => exact ⟨k + 1, by omega, by go_num, hown', hB1⟩
      case measure => simp [intOf]; omega

theorem cells_any (w : World) : Calls Try.prog 82 #[] w fun e w' => ∃ g cap, e = .returned (.slice (some ⟨g, 0, none⟩) 16 cap) ∧ w.heap.size ≤ g ∧ 16 ≤ cap ∧ Has w' g 32 (fun p => .int .i64 (cellC p)) ∧ Below w.heap.size w w' := by
  refine (cells_own w).mono ?_
  rintro e w' ⟨v, rfl, hown, hb⟩
  obtain ⟨A, cap, rfl, hcap, hS⟩ := own_sl hown
  obtain ⟨g, rfl, hg, hH⟩ := hS (by omega)
  exact ⟨g, cap, rfl, hg, hcap, hH.congr fun o ho => by unfold cellsL; simp [show o < 32 by omega], hb⟩

end Go.Proofs.Ytmjehagmgifchaa
