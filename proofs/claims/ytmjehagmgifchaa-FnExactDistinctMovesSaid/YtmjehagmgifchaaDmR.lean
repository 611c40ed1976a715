/-
  Words for DistinctMoves.
-/
import Derived.Test.YtmjehagmgifchaaDmP
import Derived.Test.YtmjehagmgifchaaFfBd
import Derived.Test.YtmjehagmgifchaaMvWords
import Derived.Maps.AppendAt
import Derived.Deep.AppendLies
namespace Go.Proofs.Ytmjehagmgifchaa
open Go.RowKit

/-- The first form behind a slide. -/
def fdB (b : Nat → Int) (d : Nat) : Nat → Int := ffB (slB b d)
/-- The directions that have been kept behind i of a list, and their boards. -/
def dmP (b : Nat → Int) (L : List Nat) : Nat → List Nat × List (Nat → Int)
  | 0 => ([], [])
  | i + 1 => if hasO eqB (dmP b L i).2 (fdB b (L.getD i 0)) = true then dmP b L i else ((dmP b L i).1 ++ [L.getD i 0], (dmP b L i).2 ++ [fdB b (L.getD i 0)])
theorem dm_yes {b : Nat → Int} {L : List Nat} {i : Nat} (h : hasO eqB (dmP b L i).2 (fdB b (L.getD i 0)) = true) : dmP b L (i + 1) = dmP b L i := if_pos h
theorem dm_no {b : Nat → Int} {L : List Nat} {i : Nat} (h : hasO eqB (dmP b L i).2 (fdB b (L.getD i 0)) = false) : dmP b L (i + 1) = ((dmP b L i).1 ++ [L.getD i 0], (dmP b L i).2 ++ [fdB b (L.getD i 0)]) := if_neg (by rw [h]; exact Bool.false_ne_true)
theorem dm_len (b : Nat → Int) (L : List Nat) : ∀ i, (dmP b L i).1.length ≤ i ∧ (dmP b L i).2.length ≤ i
  | 0 => ⟨Nat.le_refl _, Nat.le_refl _⟩
  | i + 1 => by
    have ih := dm_len b L i
    cases h : hasO eqB (dmP b L i).2 (fdB b (L.getD i 0))
    · rw [dm_no h]; simp; omega
    · rw [dm_yes h]; omega
/-- The boards in their order, as the reference keeps them. -/
def snL (b : Nat → Int) (L : List Nat) : Nat → List (Nat → Int)
  | 0 => []
  | i + 1 => if hasO eqB (snL b L i) (fdB b (L.getD i 0)) = true then snL b L i else adO ltB eqB (snL b L i) (fdB b (L.getD i 0))
theorem sn_yes {b : Nat → Int} {L : List Nat} {i : Nat} (h : hasO eqB (snL b L i) (fdB b (L.getD i 0)) = true) : snL b L (i + 1) = snL b L i := if_pos h
theorem sn_no {b : Nat → Int} {L : List Nat} {i : Nat} (h : hasO eqB (snL b L i) (fdB b (L.getD i 0)) = false) : snL b L (i + 1) = adO ltB eqB (snL b L i) (fdB b (L.getD i 0)) := if_neg (by rw [h]; exact Bool.false_ne_true)
theorem sn_srt (b : Nat → Int) (L : List Nat) : ∀ i, SrtO ltB (snL b L i)
  | 0 => List.Pairwise.nil
  | i + 1 => by
    cases h : hasO eqB (snL b L i) (fdB b (L.getD i 0))
    · rw [sn_no h]; exact srtO_ad ordBd (sn_srt b L i) _
    · rw [sn_yes h]; exact sn_srt b L i
theorem sn_has (b : Nat → Int) (L : List Nat) : ∀ i c, hasO eqB (snL b L i) c = hasO eqB (dmP b L i).2 c
  | 0, _ => rfl
  | i + 1, c => by
    have ih := sn_has b L i
    cases h : hasO eqB (dmP b L i).2 (fdB b (L.getD i 0))
    · rw [dm_no h, sn_no ((ih _).trans h), hasO_ad ordBd, ih c, hasO_app, hasO_cons, hasO_nil, Bool.or_false]
    · rw [dm_yes h, sn_yes ((ih _).trans h), ih c]
theorem sn_len (b : Nat → Int) (L : List Nat) : ∀ i, (snL b L i).length ≤ i
  | 0 => Nat.le_refl _
  | i + 1 => by
    have ih := sn_len b L i
    cases h : hasO eqB (snL b L i) (fdB b (L.getD i 0))
    · rw [sn_no h, lenO_ad ordBd (sn_srt b L i), h]; simp; omega
    · rw [sn_yes h]; omega
/-- The list grows just where the board is new. -/
theorem sn_grow (b : Nat → Int) (L : List Nat) (i : Nat) : (adO ltB eqB (snL b L i) (fdB b (L.getD i 0))).length = if hasO eqB (dmP b L i).2 (fdB b (L.getD i 0)) = true then (snL b L i).length else (snL b L i).length + 1 := by
  rw [lenO_ad ordBd (sn_srt b L i), sn_has]
theorem mv_dir {b : Nat → Int} {d : Nat} (h : d ∈ mvL b 4) : d < 4 := by
  have := (List.mem_filter.1 h).1
  exact List.mem_range.1 this
theorem mv_at {b : Nat → Int} {i : Nat} (h : i < (mvL b 4).length) : (mvL b 4).getD i 0 < 4 := by
  have e : (mvL b 4).getD i 0 = (mvL b 4)[i] := by simp [h]
  rw [e]
  exact mv_dir (List.getElem_mem h)
def dmO (b : Nat → Int) : List Nat := if bdB b = true then (dmP b (mvL b 4) (mvL b 4).length).1 else []
theorem dmO_len (b : Nat → Int) : (dmO b).length ≤ 4 := by
  unfold dmO
  split
  · have h1 := (dm_len b (mvL b 4) (mvL b 4).length).1
    have h2 := mvL_len b 4
    omega
  · simp
theorem slL_one (b : Nat → Int) (d : Nat) : slL b [d] = slB b d := rfl
/-- Rows of different kinds of cells lie apart. -/
theorem own_apart {w : World} {base base' e e' s s' n n' : Nat} {v u : Value} {xs ys : List Value} (h : w.ownsRow base e s v n xs) (k : w.ownsRow base' e' s' u n' ys) (he : e ≠ e') : ∀ j, u.ownBlock = some j → v.ownBlock ≠ some j := by
  intro j hj hv
  rcases h.2 with ⟨rfl, _⟩ | ⟨g, cap, cur, rfl, _, hg, _⟩
  · cases hv
  · rcases k.2 with ⟨rfl, _⟩ | ⟨g', cap', cur', rfl, _, hg', _⟩
    · cases hj
    · have e1 : g = j := Option.some.inj hv
      have e2 : g' = j := Option.some.inj hj
      subst e1 e2
      have e3 := hg.symm.trans hg'
      injection e3 with e3
      injection e3 with _ e4 _
      exact he e4
theorem own_grown2 {w w2 : World} {base e size n : Nat} {v : Value} {xs : List Value} {row : Option Nat} (h : w.ownsRow base e size v n xs) (hg : w.grownBy w2 row) (hne : ∀ k, v.ownBlock = some k → row ≠ some k) : w2.ownsRow base e size v n xs := by
  refine ⟨h.1, ?_⟩
  rcases h.2 with h2 | ⟨g, cap, cur, e1, hgb, hh, r⟩
  · exact .inl h2
  · refine .inr ⟨g, cap, cur, e1, hgb, (hg.block g (Array.getElem?_eq_some_iff.1 hh).1 ?_).trans hh, r⟩
    exact fun hk => hne g (by rw [e1]; rfl) hk.symm

end Go.Proofs.Ytmjehagmgifchaa

/-
  Contract: the slides of a list, the program's.
-/
namespace Go.Proofs.Ytmjehagmgifchaa
open Go.RowKit

theorem slL_snoc (b : Nat → Int) (l : List Nat) {k : Nat} (hk : k < l.length) : slL b (l.take (k + 1)) = slB (slL b (l.take k)) (l.getD k 0) := by
  unfold slL
  rw [List.take_succ_eq_append_getElem hk, List.foldl_append]
  simp [hk]
theorem getD_dir {l : List Nat} (hl : ∀ d, d ∈ l → d < 4) {k : Nat} (hk : k < l.length) : l.getD k 0 < 4 := by
  have : l.getD k 0 = l[k] := by simp [hk]
  rw [this]
  exact hl _ (List.getElem_mem hk)

set_option maxHeartbeats 8000000 in
set_option maxRecDepth 100000 in
theorem slides_any (b : Nat → Int) (hb : In17 b 16) (l : List Nat) (hl : ∀ d, d ∈ l → d < 4) (hn : l.length ≤ 1048576) (g cap : Nat) (w : World) (hS : Has w g l.length (fI l)) :
    Calls Try.prog 95 #[.agg #[.int .i64 (b 0), .int .i64 (b 1), .int .i64 (b 2), .int .i64 (b 3), .int .i64 (b 4), .int .i64 (b 5), .int .i64 (b 6), .int .i64 (b 7), .int .i64 (b 8), .int .i64 (b 9), .int .i64 (b 10), .int .i64 (b 11), .int .i64 (b 12), .int .i64 (b 13), .int .i64 (b 14), .int .i64 (b 15)], .slice (some ⟨g, 0, none⟩) l.length cap] w fun e w' => e = .returned (.agg #[.int .i64 ((slL b l) 0), .int .i64 ((slL b l) 1), .int .i64 ((slL b l) 2), .int .i64 ((slL b l) 3), .int .i64 ((slL b l) 4), .int .i64 ((slL b l) 5), .int .i64 ((slL b l) 6), .int .i64 ((slL b l) 7), .int .i64 ((slL b l) 8), .int .i64 ((slL b l) 9), .int .i64 ((slL b l) 10), .int .i64 ((slL b l) 11), .int .i64 ((slL b l) 12), .int .i64 ((slL b l) 13), .int .i64 ((slL b l) 14), .int .i64 ((slL b l) 15)]) ∧ Below w.heap.size w w' := by
  have HB := hide hb
  have HL := hide hl
  have HS := hide hS
  clear hb hl hS
  go_enter Try.func95, Try.ntmps95
  go_upto_region 1 with (fail)
  generalize hW : (w.alloc _).alloc _ = w1
  have hB : Below w.heap.size w w1 := by (rw [← hW]; exact (by repeat (first | (with_reducible exact Below.refl _ _) | (with_reducible assumption) | (with_reducible refine below_go ?_ (by with_reducible assumption)) | (with_reducible refine below_new ?_ _) | ((with_reducible refine below_put ?_ ?_ _); rotate_left; (dsimp only; omega)) | (with_reducible refine Below.drew ?_) | (with_reducible refine below_dn ?_ _))))
  have hsz : Hid (w1.heap.size = w.heap.size + 1 + 1) := hide (by rw [← hW]; simp)
  have i0 : Has w1 (w.heap.size) 16 (fun o => .int .i64 (b o)) := by (rw [← hW]; repeat (first | (refine Has.new ?_ rfl; simp; done) | refine Has.alloc ?_ _))
  have ci0 := i0.1; have fi0 := i0.2.1; have zi0 := i0.2.2
  have i1 : Has w1 (w.heap.size + 1) 16 (fun _ => .int .i64 0) := by (rw [← hW]; repeat (first | (refine Has.new ?_ rfl; simp; done) | refine Has.alloc ?_ _))
  have ci1 := i1.1; have fi1 := i1.2.1; have zi1 := i1.2.2
  clear hW
  have i0 : Has w1 w.heap.size 16 (fun o => .int .i64 (slL b (l.take 0) o)) := i0
  clear ci0 fi0 zi0 ci1 fi1 zi1 hsz
  go_wp2_with fail
  go_loopw [9] (fun v wr => ∃ k : Nat, k ≤ l.length ∧ v = .int .i64 k ∧ Below w.heap.size w wr ∧ Has wr w.heap.size 16 (fun o => .int .i64 (slL b (l.take k) o)) ∧ Has wr (w.heap.size + 1) 16 (fun _ => .int .i64 0)) (fun i _ => l.length - (intOf i).toNat)
  case atStart => exact ⟨0, by omega, rfl, hB, i0, i1⟩
  case round =>
    clear hB i0 i1
    obtain ⟨k, hk, rfl, hB, i0, i1⟩ := hrel
    by_cases hlt : k < l.length
    · have hd := getD_dir HL.out hlt
      have HI := hide (slL_in HB.out (l.take k))
      have HN := hide (slL_snoc b l hlt)
      have hH2 := HS.out.call hB
      have q1 : wr.cell? ⟨g, k, none⟩ = some (.int .i64 ((l.getD k 0 : Nat) : Int)) := hH2.1 k hlt
      clear hH2
      obtain ⟨x, hx⟩ : ∃ x, x = l.getD k 0 := ⟨_, rfl⟩
      rw [← hx] at q1 hd
      have HX := hide hx
      clear hx
      have hlti : (k : Int) < l.length := by omega
      have ci0 := i0.1; have fi0 := i0.2.1; have zi0 := i0.2.2
      have fi1 := i1.2.1; have zi1 := i1.2.2
      go_wp2_with (first | (go_at_call 112; (with_reducible refine (slide_any _ HI.out _ hd _).mono ?_); rintro e w2 ⟨rfl, hb2⟩; have hB' : Below w.heap.size w w2 := below_go (by repeat (first | (with_reducible exact Below.refl _ _) | (with_reducible assumption) | (with_reducible refine below_go ?_ (by with_reducible assumption)) | (with_reducible refine below_new ?_ _) | ((with_reducible refine below_put ?_ ?_ _); rotate_left; (dsimp only; omega)) | (with_reducible refine Below.drew ?_) | (with_reducible refine below_dn ?_ _))) hb2; have i0' : Has w2 (w.heap.size) 16 _ := Has.call (by repeat (first | (with_reducible assumption) | (with_reducible apply Has.set) | ((with_reducible apply Has.other); (case hne => (dsimp only; omega))) | (with_reducible apply Has.alloc) | (with_reducible apply Has.drew) | (with_reducible apply Has.drewN))) hb2; have i1' : Has w2 (w.heap.size + 1) 16 _ := Has.call (by repeat (first | (with_reducible assumption) | (with_reducible apply Has.set) | ((with_reducible apply Has.other); (case hne => (dsimp only; omega))) | (with_reducible apply Has.alloc) | (with_reducible apply Has.drew) | (with_reducible apply Has.drewN))) hb2; clear hB hb2; have hB := hB'; clear hB'; (try clear fi0); (try clear zi0); (try clear ci0); clear i0; have i0 := i0'; clear i0'; have ci0 := i0.1; have fi0 := i0.2.1; have zi0 := i0.2.2; (try clear fi1); (try clear zi1); (try clear ci1); clear i1; have i1 := i1'; clear i1'; have ci1 := i1.1; have fi1 := i1.2.1; have zi1 := i1.2.2) | (refine load_Board rfl _ rfl _ _ rfl (by repeat (first | (with_reducible assumption) | (with_reducible apply Has.set) | ((with_reducible apply Has.other); (case hne => (dsimp only; omega))) | (with_reducible apply Has.alloc) | (with_reducible apply Has.drew) | (with_reducible apply Has.drewN))) (by omega) ?_) | (refine store_BoardF rfl _ _ rfl _ _ rfl rfl (by repeat (first | (with_reducible assumption) | (with_reducible apply Has.set) | ((with_reducible apply Has.other); (case hne => (dsimp only; omega))) | (with_reducible apply Has.alloc) | (with_reducible apply Has.drew) | (with_reducible apply Has.drewN))) ?_; intro w3 ho3 hn3; have hB' : Below w.heap.size w w3 := below_only (by repeat (first | (with_reducible exact Below.refl _ _) | (with_reducible assumption) | (with_reducible refine below_go ?_ (by with_reducible assumption)) | (with_reducible refine below_new ?_ _) | ((with_reducible refine below_put ?_ ?_ _); rotate_left; (dsimp only; omega)) | (with_reducible refine Below.drew ?_) | (with_reducible refine below_dn ?_ _))) ho3 (by omega); have i0' : Has w3 (w.heap.size) 16 _ := (by first | (with_reducible exact hn3) | exact Has.only (by repeat (first | (with_reducible assumption) | (with_reducible apply Has.set) | ((with_reducible apply Has.other); (case hne => (dsimp only; omega))) | (with_reducible apply Has.alloc) | (with_reducible apply Has.drew) | (with_reducible apply Has.drewN))) ho3 (by omega)); have i1' : Has w3 (w.heap.size + 1) 16 _ := (by first | (with_reducible exact hn3) | exact Has.only (by repeat (first | (with_reducible assumption) | (with_reducible apply Has.set) | ((with_reducible apply Has.other); (case hne => (dsimp only; omega))) | (with_reducible apply Has.alloc) | (with_reducible apply Has.drew) | (with_reducible apply Has.drewN))) ho3 (by omega)); clear ho3 hn3; clear hB; have hB := hB'; clear hB'; (try clear fi0); (try clear zi0); (try clear ci0); clear i0; have i0 := i0'; clear i0'; have ci0 := i0.1; have fi0 := i0.2.1; have zi0 := i0.2.2; (try clear fi1); (try clear zi1); (try clear ci1); clear i1; have i1 := i1'; clear i1'; have ci1 := i1.1; have fi1 := i1.2.1; have zi1 := i1.2.2))
      go_roundw
      case rel => exact ⟨k + 1, by omega, by go_num, hB, by rw [HN.out, ← HX.out]; exact i0, i1⟩
      case measure => simp [intOf]; omega
    · obtain rfl : k = l.length := by omega
      have i0 : Has wr w.heap.size 16 (fun o => .int .i64 (slL b l o)) := by rw [List.take_length] at i0; exact i0
      go_wp2_with (first | (refine load_Board rfl _ rfl _ _ rfl (by repeat (first | (with_reducible assumption) | (with_reducible apply Has.set) | ((with_reducible apply Has.other); (case hne => (dsimp only; omega))) | (with_reducible apply Has.alloc) | (with_reducible apply Has.drew) | (with_reducible apply Has.drewN))) (by omega) ?_) | (refine store_BoardF rfl _ _ rfl _ _ rfl rfl (by repeat (first | (with_reducible assumption) | (with_reducible apply Has.set) | ((with_reducible apply Has.other); (case hne => (dsimp only; omega))) | (with_reducible apply Has.alloc) | (with_reducible apply Has.drew) | (with_reducible apply Has.drewN))) ?_; intro w3 ho3 hn3; have hB' : Below w.heap.size w w3 := below_only (by repeat (first | (with_reducible exact Below.refl _ _) | (with_reducible assumption) | (with_reducible refine below_go ?_ (by with_reducible assumption)) | (with_reducible refine below_new ?_ _) | ((with_reducible refine below_put ?_ ?_ _); rotate_left; (dsimp only; omega)) | (with_reducible refine Below.drew ?_) | (with_reducible refine below_dn ?_ _))) ho3 (by omega); have i0' : Has w3 (w.heap.size) 16 _ := (by first | (with_reducible exact hn3) | exact Has.only (by repeat (first | (with_reducible assumption) | (with_reducible apply Has.set) | ((with_reducible apply Has.other); (case hne => (dsimp only; omega))) | (with_reducible apply Has.alloc) | (with_reducible apply Has.drew) | (with_reducible apply Has.drewN))) ho3 (by omega)); have i1' : Has w3 (w.heap.size + 1) 16 _ := (by first | (with_reducible exact hn3) | exact Has.only (by repeat (first | (with_reducible assumption) | (with_reducible apply Has.set) | ((with_reducible apply Has.other); (case hne => (dsimp only; omega))) | (with_reducible apply Has.alloc) | (with_reducible apply Has.drew) | (with_reducible apply Has.drewN))) ho3 (by omega)); clear ho3 hn3; clear hB; have hB := hB'; clear hB'; (try clear fi0); (try clear zi0); (try clear ci0); clear i0; have i0 := i0'; clear i0'; have ci0 := i0.1; have fi0 := i0.2.1; have zi0 := i0.2.2; (try clear fi1); (try clear zi1); (try clear ci1); clear i1; have i1 := i1'; clear i1'; have ci1 := i1.1; have fi1 := i1.2.1; have zi1 := i1.2.2))
      refine bodyPost_ret (results_cell rfl rfl (loadVar_Board i1 (by omega))) rfl ⟨rfl, (by repeat (first | (with_reducible exact Below.refl _ _) | (with_reducible assumption) | (with_reducible refine below_go ?_ (by with_reducible assumption)) | (with_reducible refine below_new ?_ _) | ((with_reducible refine below_put ?_ ?_ _); rotate_left; (dsimp only; omega)) | (with_reducible refine Below.drew ?_) | (with_reducible refine below_dn ?_ _)))⟩

end Go.Proofs.Ytmjehagmgifchaa
