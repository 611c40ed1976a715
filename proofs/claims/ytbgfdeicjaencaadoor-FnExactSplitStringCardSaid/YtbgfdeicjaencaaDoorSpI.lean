/-
  Contracts: SplitString, the program's and the reference's.
-/
import Derived.Test.YtbgfdeicjaencaaDoorStrS2
import Derived.Test.YtbgfdeicjaencaaDoorShelf
namespace Go.Proofs.YtbgfdeicjaencaaDoor
open Go.RowKit

/-- The library's variable MaxLen holds some whole number. -/
def MaxI (w : World) : Prop := ∃ m, w.cell? ⟨0, 0, none⟩ = some (.int .i64 m)
theorem MaxI.call {w w2 : World} (h : MaxI w) (hb : Below w.heap.size w w2) : MaxI w2 :=
  let ⟨m, hm⟩ := h
  ⟨m, (hb.cell (p := ⟨0, 0, none⟩) (World.block_lt_of_cell? _ _ hm)).trans hm⟩

theorem one_sep {sep : ByteArray} (h : sep.size = 1) : ∃ c, sep = ⟨#[c]⟩ := by
  have hl : sep.data.toList.length = 1 := by rw [Array.length_toList]; exact h
  match hs : sep.data.toList, hl with
  | [c], _ => exact ⟨c, by apply ByteArray.ext; apply Array.toList_inj.1; rw [hs]⟩
theorem split_any (s : ByteArray) (c : UInt8) (hs : s.size ≤ 4000) (w : World) (hm : MaxI w) :
    Calls Tryd.prog 40 #[.string s, .string ⟨#[c]⟩] w fun e w' => ∃ A cap, e = .returned (.slice A (spR s c).length cap) ∧ Sl w' w.heap.size A (spR s c).length (fun o => .string (fS (spR s c) o)) ∧ Below w.heap.size w w' := by
  obtain ⟨m, hm⟩ := hm
  have h := Tryd.strings_Split s ⟨#[c]⟩ m w (by omega) hm (Nat.le_refl _)
  rw [split_len, split_one] at h
  refine h.mono ?_
  rintro e w' ⟨rfl, rfl⟩
  have hn := Has.new' (w := w) (cs := ((spR s c).map Value.string).toArray) (T := 9) (n := (spR s c).length) (by simp)
  refine ⟨_, _, rfl, fun _ => ⟨_, rfl, Nat.le_refl _, hn.congr fun o ho => ?_⟩, (by repeat (first | (with_reducible exact Below.refl _ _) | (with_reducible assumption) | (with_reducible refine below_go ?_ (by with_reducible assumption)) | (with_reducible refine below_new ?_ _) | ((with_reducible refine below_put ?_ ?_ _); rotate_left; (dsimp only; omega)) | (with_reducible refine Below.drew ?_) | (with_reducible refine below_dn ?_ _)))⟩
  simp [fS, ho]
theorem strs_sl {w : World} {base : Nat} {v : Value} {l : List ByteArray} (h : w.ownsRow base 9 1 v l.length (strsV l)) : ∃ A cap, v = .slice A l.length cap ∧ Sl w base A l.length (fun o => .string (fS l o)) := by
  obtain ⟨A, cap, rfl, _, hS⟩ := own_sl h
  rw [Nat.mul_one] at hS
  exact ⟨A, cap, rfl, hS.congr fun o ho => by simp [strsV, fS, ho]⟩

theorem ssOk_bounds {s sep : ByteArray} (h : ssOk s sep = true) : s.size ≤ 4000 ∧ sep.size = 1 := by simpa [ssOk] using h
theorem ssOk_out {s sep : ByteArray} (h : ssOk s sep = false) : 4000 < s.size ∨ (s.size ≤ 4000 ∧ sep.size ≠ 1) := by
  simp [ssOk] at h
  omega

set_option maxRecDepth 100000 in
set_option maxHeartbeats 4000000 in
theorem implSplit_any (s sep : ByteArray) (w : World) (hm : MaxI w) : Calls Tryd.prog 13 #[.string s, .string sep] w fun e w' => ∃ A cap, e = .returned (.tuple #[.slice A (ssL s sep).length cap, .bool (ssOk s sep)]) ∧ Sl w' w.heap.size A (ssL s sep).length (fun o => .string (fS (ssL s sep) o)) ∧ Below w.heap.size w w' := by
  cases h : ssOk s sep
  · have e0 : ssL s sep = [] := by simp [ssL, h]
    rw [e0]
    rcases ssOk_out h with h1 | ⟨h1, h2⟩
    · have a1 : (4000 : Int) < s.size := by omega
      have a2 : decide ((s.size : Int) > 4000) = true := decide_eq_true (by omega)
      clear h e0
      go_enter Tryd.func13, Tryd.ntmps13
      go_wp2
      go_ret2
      exact ⟨_, _, rfl, sl_zero _ _ _ _, (by repeat (first | (with_reducible exact Below.refl _ _) | (with_reducible assumption) | (with_reducible refine below_go ?_ (by with_reducible assumption)) | (with_reducible refine below_new ?_ _) | ((with_reducible refine below_put ?_ ?_ _); rotate_left; (dsimp only; omega)) | (with_reducible refine Below.drew ?_) | (with_reducible refine below_dn ?_ _)))⟩
    · have a1 : (s.size : Int) ≤ 4000 := by omega
      have a2 : decide ((s.size : Int) > 4000) = false := decide_eq_false (by omega)
      have a3 : ((sep.size : Int) != 1) = true := by simp; omega
      clear h e0 h2
      go_enter Tryd.func13, Tryd.ntmps13
      go_wp2
      go_ret2
      exact ⟨_, _, rfl, sl_zero _ _ _ _, (by repeat (first | (with_reducible exact Below.refl _ _) | (with_reducible assumption) | (with_reducible refine below_go ?_ (by with_reducible assumption)) | (with_reducible refine below_new ?_ _) | ((with_reducible refine below_put ?_ ?_ _); rotate_left; (dsimp only; omega)) | (with_reducible refine Below.drew ?_) | (with_reducible refine below_dn ?_ _)))⟩
  · obtain ⟨h1, h2⟩ := ssOk_bounds h
    obtain ⟨c, rfl⟩ := one_sep h2
    have e0 : ssL s ⟨#[c]⟩ = spR s c := by simp [ssL, h]
    rw [e0]
    have a1 : (s.size : Int) ≤ 4000 := by omega
    have a2 : decide ((s.size : Int) > 4000) = false := decide_eq_false (by omega)
    have HS := hide (split_any s c h1 w hm)
    clear h e0 h2 hm
    go_enter Tryd.func13, Tryd.ntmps13
    go_wp2_with (go_at_call 40; (with_reducible refine HS.out.mono ?_); rintro e w2 ⟨A, cap, rfl, hS, hb2⟩)
    go_ret2
    exact ⟨_, _, rfl, hS, hb2⟩

set_option maxRecDepth 100000 in
set_option maxHeartbeats 4000000 in
theorem specSplit_any (s sep : ByteArray) (hs : s.size ≤ 1048576) (w : World) : Calls Tryd.prog 12 #[.string s, .string sep] w fun e w' => ∃ A cap, e = .returned (.tuple #[.slice A (ssL s sep).length cap, .bool (ssOk s sep)]) ∧ Sl w' w.heap.size A (ssL s sep).length (fun o => .string (fS (ssL s sep) o)) ∧ Below w.heap.size w w' := by
  cases h : ssOk s sep
  · have e0 : ssL s sep = [] := by simp [ssL, h]
    rw [e0]
    by_cases h2 : sep.size = 1
    · have h1 : 4000 < s.size := by rcases ssOk_out h with h1 | ⟨_, h3⟩ <;> omega
      have a1 : (4000 : Int) < s.size := by omega
      have a2 : decide ((s.size : Int) > 4000) = true := decide_eq_true (by omega)
      have a3 : ((sep.size : Int) != 1) = false := by rw [h2]; rfl
      clear h e0
      go_enter Tryd.func12, Tryd.ntmps12
      go_wp2
      go_ret2
      exact ⟨_, _, rfl, sl_zero _ _ _ _, (by repeat (first | (with_reducible exact Below.refl _ _) | (with_reducible assumption) | (with_reducible refine below_go ?_ (by with_reducible assumption)) | (with_reducible refine below_new ?_ _) | ((with_reducible refine below_put ?_ ?_ _); rotate_left; (dsimp only; omega)) | (with_reducible refine Below.drew ?_) | (with_reducible refine below_dn ?_ _)))⟩
    · have a3 : ((sep.size : Int) != 1) = true := by simp; omega
      clear h e0
      go_enter Tryd.func12, Tryd.ntmps12
      go_wp2
      go_ret2
      exact ⟨_, _, rfl, sl_zero _ _ _ _, (by repeat (first | (with_reducible exact Below.refl _ _) | (with_reducible assumption) | (with_reducible refine below_go ?_ (by with_reducible assumption)) | (with_reducible refine below_new ?_ _) | ((with_reducible refine below_put ?_ ?_ _); rotate_left; (dsimp only; omega)) | (with_reducible refine Below.drew ?_) | (with_reducible refine below_dn ?_ _)))⟩
  · obtain ⟨h1, h2⟩ := ssOk_bounds h
    obtain ⟨c, rfl⟩ := one_sep h2
    have e0 : ssL s ⟨#[c]⟩ = spR s c := by simp [ssL, h]
    rw [e0]
    have a1 : (s.size : Int) ≤ 4000 := by omega
    have a2 : decide ((s.size : Int) > 4000) = false := decide_eq_false (by omega)
    have HS := hide (l1Split_own s c (by omega) w)
    clear h e0 h2
    go_enter Tryd.func12, Tryd.ntmps12
    go_wp2_with (go_at_call 39; (refine HS.out.mono ?_); rintro e w2 ⟨v, rfl, hown, hb2⟩; obtain ⟨A, cap, rfl, hS⟩ := strs_sl hown)
    go_ret2
    exact ⟨_, _, rfl, hS, hb2⟩

end Go.Proofs.YtbgfdeicjaencaaDoor
