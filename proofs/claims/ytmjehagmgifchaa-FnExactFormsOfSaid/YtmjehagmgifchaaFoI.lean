/-
  Contract: boards in order, each once; FormsOf, the program's.
-/
import Derived.Test.YtmjehagmgifchaaSortB
import Derived.Test.YtmjehagmgifchaaCpB2
import Derived.Test.YtmjehagmgifchaaForm3
import Derived.Test.YtmjehagmgifchaaDir
namespace Go.Proofs.Ytmjehagmgifchaa
open Go.RowKit

/-- The forms of a board in order, each once. -/
def foL (b : Nat → Int) (k : Nat) : List (Nat → Int) := foldO ltB eqB (formB b) k
def foO (b : Nat → Int) : List (Nat → Int) := if bdB b = true then foL b 8 else []
def fmL (b : Nat → Int) (k : Nat) : List (Nat → Int) := (List.range k).map (formB b)
theorem fmL_succ (b : Nat → Int) (k : Nat) : fmL b (k + 1) = fmL b k ++ [formB b k] := by simp [fmL, List.range_succ]
theorem fmL_len (b : Nat → Int) (k : Nat) : (fmL b k).length = k := by simp [fmL]
theorem foL_len (b : Nat → Int) : (foL b 8).length = (newL b).length := foldO_len ordBd (formB b) 8
theorem foL_le (b : Nat → Int) : (foL b 8).length ≤ 8 := by
  rw [foL_len]
  have := List.length_filter_le (fun k => !((List.range k).any fun j => eqB (formB b j) (formB b k))) (List.range 8)
  simpa [newL] using this
theorem foO_len (b : Nat → Int) : (foO b).length ≤ 8 := by
  unfold foO
  split
  · exact foL_le b
  · simp
theorem cnt_sym (b : Nat → Int) : (foL b 8).length = 8 / (symL b 8).length ∧ 0 < (symL b 8).length := by
  have h := new_sym b
  rw [← foL_len] at h
  have h0 : 0 < (symL b 8).length := by
    rcases Nat.eq_zero_or_pos (symL b 8).length with e | e
    · rw [e] at h; simp at h
    · exact e
  exact ⟨(Nat.div_eq_of_eq_mul_left h0 h.symm).symm, h0⟩
/-- Sorted and struck, the forms are what the reference builds. -/
theorem fo_same {b : Nat → Int} {l' : List (Nat → Int)} (hp : l'.Perm (fmL b 8)) (hs : l'.Pairwise fun a c => ltB c a = false) :
    (cpA eqB l').length = (foL b 8).length ∧ ∀ o, o < (foL b 8).length * 16 → bsC (cpA eqB l') o = bsC (foL b 8) o := by
  obtain ⟨h1, h2⟩ := uniqO ordBd _ _ (srtO_cp ordBd l' hs) (foldO_srt ordBd (formB b) 8) (fun c => by
    rw [hasO_cp ordBd, hasO_perm hp, foldO_has ordBd]
    simp [hasO, fmL, List.any_map, Function.comp_def])
  have h1' : (cpA eqB l').length = (foL b 8).length := h1
  refine ⟨h1', fun o ho => ?_⟩
  have hlt : o / 16 < (foL b 8).length := by omega
  have e := h2 (o / 16) _ _ (atL_get (l := cpA eqB l') (by rw [h1']; exact hlt)) (atL_get (l := foL b 8) hlt)
  show Value.int .i64 (atL (cpA eqB l') (o / 16) (o % 16)) = Value.int .i64 (atL (foL b 8) (o / 16) (o % 16))
  rw [eqB_true.1 e (o % 16) (by omega)]

set_option maxHeartbeats 4000000 in
set_option maxRecDepth 100000 in
theorem ordered_any (b : Nat → Int) (g cap : Nat) (hcap : 8 ≤ cap) (w : World) (hH : Has w g (8 * 16) (bsC (fmL b 8))) :
    Calls Try.prog 100 #[.slice (some ⟨g, 0, none⟩) 8 cap] w fun e w' => e = .returned (.slice (some ⟨g, 0, none⟩) (foL b 8).length cap) ∧ Has w' g ((foL b 8).length * 16) (bsC (foL b 8)) ∧ w.grownBy w' (some g) := by
  have h8 := fmL_len b 8
  have HS := hide (by have h := sortB_any (fmL b 8) (by omega) g cap w (by rw [h8]; exact hH); rw [h8] at h; exact h)
  have HC := hide (fun (l' : List (Nat → Int)) (hp : l'.Perm (fmL b 8)) (w2 : World) (h : Has w2 g (8 * 16) (bsC l')) => by
    have hl : l'.length = 8 := by rw [hp.length_eq, h8]
    have h := compactB_any l' (by omega) g cap (by omega) w2 (by rw [hl]; exact h)
    rw [hl] at h
    exact h)
  have HF := hide (fun l' hp hs => fo_same (b := b) (l' := l') hp hs)
  clear hH h8
  go_enter Try.func100, Try.ntmps100
  go_upto_region 2 with (go_at_call 154; (with_reducible refine HS.out.mono ?_); rintro e w2 ⟨rfl, l', hp, hs, h2, hg2⟩)
  have HC2 := hide (HC.out l' hp w2 h2)
  have HF2 := hide (HF.out l' hp hs)
  clear HC HF h2
  go_wp2_with (go_at_call 155; (with_reducible refine HC2.out.mono ?_); rintro e w3 ⟨rfl, h3, hO⟩)
  go_ret
  obtain ⟨f1, f2⟩ := HF2.out
  refine ⟨by rw [← f1]; rfl, ?_, ?_⟩
  · rw [f1] at h3
    exact h3.congr f2
  · exact ⟨hO.os.trans hg2.os, hO.tape.trans hg2.tape, hO.output.trans hg2.output, Nat.le_trans hg2.size (Nat.le_of_eq hO.size.symm), fun k hk hne => (hO.block k (fun h => hne (by rw [h]))).trans (hg2.block k hk hne)⟩

set_option maxHeartbeats 8000000 in
set_option maxRecDepth 100000 in
theorem formsOf_own (b : Nat → Int) (w : World) : Calls Try.prog 25 #[.agg #[.int .i64 (b 0), .int .i64 (b 1), .int .i64 (b 2), .int .i64 (b 3), .int .i64 (b 4), .int .i64 (b 5), .int .i64 (b 6), .int .i64 (b 7), .int .i64 (b 8), .int .i64 (b 9), .int .i64 (b 10), .int .i64 (b 11), .int .i64 (b 12), .int .i64 (b 13), .int .i64 (b 14), .int .i64 (b 15)]] w fun e w' => ∃ A cap, e = .returned (.tuple #[.slice A (foO b).length cap, .bool (bdB b)]) ∧ Sl w' w.heap.size A ((foO b).length * 16) (bsC (foO b)) ∧ Below w.heap.size w w' := by
  cases hb : bdB b
  · have e0 : foO b = [] := by simp [foO, hb]
    rw [e0]
    clear e0
    go_enter Try.func25, Try.ntmps25
    go_upto_region 1 with (fail)
    generalize hW : w.alloc _ = w1
    have hB : Below w.heap.size w w1 := by (rw [← hW]; exact (by repeat (first | (with_reducible exact Below.refl _ _) | (with_reducible assumption) | (with_reducible refine below_go ?_ (by with_reducible assumption)) | (with_reducible refine below_new ?_ _) | ((with_reducible refine below_put ?_ ?_ _); rotate_left; (dsimp only; omega)) | (with_reducible refine Below.drew ?_) | (with_reducible refine below_dn ?_ _))))
    have hsz : Hid (w1.heap.size = w.heap.size + 1) := hide (by rw [← hW]; simp)
    have i0 : Has w1 (w.heap.size) 16 (fun o => .int .i64 (b o)) := by (rw [← hW]; repeat (first | (refine Has.new ?_ rfl; simp; done) | refine Has.alloc ?_ _))
    have ci0 := i0.1; have fi0 := i0.2.1; have zi0 := i0.2.2
    clear hW
    go_wp2_with (first | (go_at_call 50; (with_reducible refine (Calls.bool_as (isBoard_any b _) hb).mono ?_); rintro e w2 ⟨rfl, hb2⟩; have hB' : Below w.heap.size w w2 := below_go (by repeat (first | (with_reducible exact Below.refl _ _) | (with_reducible assumption) | (with_reducible refine below_go ?_ (by with_reducible assumption)) | (with_reducible refine below_new ?_ _) | ((with_reducible refine below_put ?_ ?_ _); rotate_left; (dsimp only; omega)) | (with_reducible refine Below.drew ?_) | (with_reducible refine below_dn ?_ _))) hb2; have i0' : Has w2 (w.heap.size) 16 _ := Has.call (by repeat (first | (with_reducible assumption) | (with_reducible apply Has.set) | ((with_reducible apply Has.other); (case hne => (dsimp only; omega))) | (with_reducible apply Has.alloc) | (with_reducible apply Has.drew) | (with_reducible apply Has.drewN))) hb2; clear hB hb2; have hB := hB'; clear hB'; (try clear fi0); (try clear zi0); (try clear ci0); clear i0; have i0 := i0'; clear i0'; have ci0 := i0.1; have fi0 := i0.2.1; have zi0 := i0.2.2) | (refine load_Board rfl _ rfl _ _ rfl (by repeat (first | (with_reducible assumption) | (with_reducible apply Has.set) | ((with_reducible apply Has.other); (case hne => (dsimp only; omega))) | (with_reducible apply Has.alloc) | (with_reducible apply Has.drew) | (with_reducible apply Has.drewN))) (by omega) ?_))
    go_ret2
    exact ⟨_, _, rfl, sl_zero _ _ _ _, (by repeat (first | (with_reducible exact Below.refl _ _) | (with_reducible assumption) | (with_reducible refine below_go ?_ (by with_reducible assumption)) | (with_reducible refine below_new ?_ _) | ((with_reducible refine below_put ?_ ?_ _); rotate_left; (dsimp only; omega)) | (with_reducible refine Below.drew ?_) | (with_reducible refine below_dn ?_ _)))⟩
  · have HB := hide (bdB_in hb)
    have e0 := hide (show foO b = foL b 8 from if_pos hb)
    rw [e0.out]
    obtain ⟨i1s, hj0, hj1, hj2, hj3⟩ := info_parts info_Bd3
    go_enter Try.func25, Try.ntmps25
    go_upto_region 1 with (fail)
    generalize hW : w.alloc _ = w1
    have hB : Below w.heap.size w w1 := by (rw [← hW]; exact (by repeat (first | (with_reducible exact Below.refl _ _) | (with_reducible assumption) | (with_reducible refine below_go ?_ (by with_reducible assumption)) | (with_reducible refine below_new ?_ _) | ((with_reducible refine below_put ?_ ?_ _); rotate_left; (dsimp only; omega)) | (with_reducible refine Below.drew ?_) | (with_reducible refine below_dn ?_ _))))
    have hsz : Hid (w1.heap.size = w.heap.size + 1) := hide (by rw [← hW]; simp)
    have i0 : Has w1 (w.heap.size) 16 (fun o => .int .i64 (b o)) := by (rw [← hW]; repeat (first | (refine Has.new ?_ rfl; simp; done) | refine Has.alloc ?_ _))
    have ci0 := i0.1; have fi0 := i0.2.1; have zi0 := i0.2.2
    clear hW
    go_upto_region 4 with (first | (go_at_call 50; (with_reducible refine (Calls.bool_as (isBoard_any b _) hb).mono ?_); rintro e w2 ⟨rfl, hb2⟩; have hB' : Below w.heap.size w w2 := below_go (by repeat (first | (with_reducible exact Below.refl _ _) | (with_reducible assumption) | (with_reducible refine below_go ?_ (by with_reducible assumption)) | (with_reducible refine below_new ?_ _) | ((with_reducible refine below_put ?_ ?_ _); rotate_left; (dsimp only; omega)) | (with_reducible refine Below.drew ?_) | (with_reducible refine below_dn ?_ _))) hb2; have i0' : Has w2 (w.heap.size) 16 _ := Has.call (by repeat (first | (with_reducible assumption) | (with_reducible apply Has.set) | ((with_reducible apply Has.other); (case hne => (dsimp only; omega))) | (with_reducible apply Has.alloc) | (with_reducible apply Has.drew) | (with_reducible apply Has.drewN))) hb2; clear hB hb2; have hB := hB'; clear hB'; (try clear fi0); (try clear zi0); (try clear ci0); clear i0; have i0 := i0'; clear i0'; have ci0 := i0.1; have fi0 := i0.2.1; have zi0 := i0.2.2) | (refine load_Board rfl _ rfl _ _ rfl (by repeat (first | (with_reducible assumption) | (with_reducible apply Has.set) | ((with_reducible apply Has.other); (case hne => (dsimp only; omega))) | (with_reducible apply Has.alloc) | (with_reducible apply Has.drew) | (with_reducible apply Has.drewN))) (by omega) ?_))
    generalize hW : World.alloc w2 _ = w3
    have hB' : Below w.heap.size w w3 := by (rw [← hW]; exact (by repeat (first | (with_reducible exact Below.refl _ _) | (with_reducible assumption) | (with_reducible refine below_go ?_ (by with_reducible assumption)) | (with_reducible refine below_new ?_ _) | ((with_reducible refine below_put ?_ ?_ _); rotate_left; (dsimp only; omega)) | (with_reducible refine Below.drew ?_) | (with_reducible refine below_dn ?_ _))))
    have own : w3.ownsRow (w.heap.size + 1) 25 16 (.slice (some ⟨w2.heap.size, 0, none⟩) 0 0) (fmL b 0).length (bsV (fmL b 0)) := by (rw [← hW]; exact World.ownsRow_made w2 #[] 0 zi0 (Nat.zero_le _) rfl)
    have i0' : Has w3 w.heap.size 16 (fun o => .int .i64 (b o)) := by (rw [← hW]; exact i0.alloc _)
    clear hB i0 ci0 fi0 zi0 hW
    have hB := hB'; have i0 := i0'
    clear hB' i0'
    go_wp2_with fail
    go_loopw [4, 10] (fun v i wr => ∃ (k : Nat) (u : Value), u = v ∧ k ≤ 8 ∧ i = .int .i64 k ∧ wr.ownsRow (w.heap.size + 1) 25 16 u (fmL b k).length (bsV (fmL b k)) ∧ Below w.heap.size w wr ∧ Has wr w.heap.size 16 (fun o => .int .i64 (b o))) (fun _ i _ => 8 - (intOf i).toNat)
    case atStart => exact ⟨0, _, rfl, by omega, rfl, own, hB, i0⟩
    case round =>
      clear hB i0 own
      rename_i v4 _
      obtain ⟨k, v4, rfl, hk, rfl, own, hB, i0⟩ := hrel
      have ci0 := i0.1; have fi0 := i0.2.1; have zi0 := i0.2.2
      by_cases h8 : k = 8
      · subst h8
        obtain ⟨A, cap, hv, hcap, hS⟩ := bs_sl own
        have h88 := fmL_len b 8
        rw [h88] at hv hcap hS
        subst hv
        obtain ⟨g, rfl, hg, hH⟩ := hS (by omega)
        have HO := hide (ordered_any b g cap hcap wr hH)
        rw [h88] at own
        clear hS hH own h88
        go_wp2_with (go_at_call 100; (with_reducible refine HO.out.mono ?_); rintro e w5 ⟨rfl, h5, hg5⟩)
        go_ret2
        exact ⟨_, _, rfl, fun _ => ⟨g, rfl, by omega, h5⟩, hB.grown hg5 hB.size (fun q hq => by have := Option.some.inj hq; omega)⟩
      · have hlt : k < 8 := by omega
        have HL := hide (fmL_succ b k)
        have hkl := fmL_len b k
        have hF := form_any b k hlt
        generalize formB b k = F at *
        go_wp2_with (first | (refine load_Board rfl _ rfl _ _ rfl (by repeat (first | (with_reducible assumption) | (with_reducible apply Has.set) | ((with_reducible apply Has.other); (case hne => (dsimp only; omega))) | (with_reducible apply Has.alloc) | (with_reducible apply Has.drew) | (with_reducible apply Has.drewN))) (by omega) ?_) | (go_at_call 99; (with_reducible refine (hF _).mono ?_); rintro e w2 ⟨rfl, hb2⟩; have own' := own_call own hb2; clear own; have own := own'; clear own'; have hB' : Below w.heap.size w w2 := below_go (by repeat (first | (with_reducible exact Below.refl _ _) | (with_reducible assumption) | (with_reducible refine below_go ?_ (by with_reducible assumption)) | (with_reducible refine below_new ?_ _) | ((with_reducible refine below_put ?_ ?_ _); rotate_left; (dsimp only; omega)) | (with_reducible refine Below.drew ?_) | (with_reducible refine below_dn ?_ _))) hb2; have i0' : Has w2 (w.heap.size) 16 _ := Has.call (by repeat (first | (with_reducible assumption) | (with_reducible apply Has.set) | ((with_reducible apply Has.other); (case hne => (dsimp only; omega))) | (with_reducible apply Has.alloc) | (with_reducible apply Has.drew) | (with_reducible apply Has.drewN))) hb2; clear hB hb2; have hB := hB'; clear hB'; (try clear fi0); (try clear zi0); (try clear ci0); clear i0; have i0 := i0'; clear i0'; have ci0 := i0.1; have fi0 := i0.2.1; have zi0 := i0.2.2) | (at_builtin; refine wpList_append_own _ rfl _ _ 42 rfl (w.heap.size + 1) 25 i1s (.agg #[.int .i64 0, .int .i64 0, .int .i64 0, .int .i64 0, .int .i64 0, .int .i64 0, .int .i64 0, .int .i64 0, .int .i64 0, .int .i64 0, .int .i64 0, .int .i64 0, .int .i64 0, .int .i64 0, .int .i64 0, .int .i64 0]) 16 128 Try.underlying42 hj0 hj1 hj2 hj3 rfl (by decide) _ (fmL b k).length (bsV (fmL b k)) rfl (own.alloc _) ⟨w2.heap.size, 0, none⟩ 1 1 (c16 F) rfl rfl ?c1 ?c2 ?c3 ?c4 ?c5 ?_))
        case c1 => exact bd_cells
        case c2 => exact c16_ints F
        case c3 => unfold maxLen; omega
        case c4 => omega
        case c5 => have := i0.2.2; simp; omega
        intro v' w3 hown' hgrow _
        have hB1 : Below w.heap.size w w3 := (below_new hB _).grown hgrow (by have := hB.size; simp; omega) (fun q hq => Nat.le_of_succ_le (own.lt q hq).1)
        have j1 := (i0.alloc _).grown hgrow (own_at_ne own (Nat.lt_succ_self _))
        have own2 : w3.ownsRow (w.heap.size + 1) 25 16 v' (fmL b (k + 1)).length (bsV (fmL b (k + 1))) := by
          rw [HL.out, bsV_snoc, List.length_append, hkl]; exact hown'
        clear hown' hB hgrow own i0
        go_wp2
        go_roundw
        case rel => exact ⟨k + 1, _, rfl, by omega, by go_num, own2, hB1, j1⟩
        case measure => simp [intOf]; omega

end Go.Proofs.Ytmjehagmgifchaa
