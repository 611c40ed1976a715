/-
  Contract: the rows before a row (the reference's l4Before).
-/
import Derived.Test.YtmbmknpjmkgjlaaBefW
import Derived.Test.YtmbmknpjmkgjlaaL2Row
namespace Go.Proofs.Ytmbmknpjmkgjlaa
open Go.RowKit

theorem nints_snoc (l : List Int) (t : Int) : nints (l ++ [t]) = nints l ++ [.int .i64 t] := by simp [nints]
theorem nints_snoc2 (l : List Int) (s t : Int) : nints (l ++ [s, t]) = nints l ++ [.int .i64 s, .int .i64 t] := by simp [nints]
theorem two_cells {wr : World} {T : TypeId} {x y : Value} : ∀ (j : Nat) (u : Value), ([x, y] : List Value)[j]? = some u → (wr.alloc (.cells #[x, y] T)).cell? ((⟨wr.heap.size, 0, none⟩ : Addr).add j) = some u := by
  intro j u hj
  have hn := Has.new' (w := wr) (cs := #[x, y]) (T := T) (n := 2) rfl
  rw [Addr.add_lit]
  rcases (by omega : j = 0 ∨ j = 1 ∨ 2 ≤ j) with rfl | rfl | h
  · simp at hj; subst hj; exact hn.1 0 (by omega)
  · simp at hj; subst hj; exact hn.1 1 (by omega)
  · rw [List.getElem?_eq_none (by simpa using h)] at hj; cases hj
theorem Has.cl {w : World} {B n o : Nat} {c : Nat → Value} (h : Has w B n c) (ho : o < n) : w.cell? ⟨B, o, none⟩ = some (c o) := h.1 o ho
/-- The rows before a row: in order, each once. -/
def rbL (r : Nat → Int) : List (Nat → Int) := putO ltR eqR (rfL (slP r) (preL r) 16)
theorem rbL_len (r : Nat → Int) : (rbL r).length ≤ 256 := Nat.le_trans (putO_len _ _ _) (rfL_len _ _ _)

set_option maxHeartbeats 16000000 in
set_option maxRecDepth 100000 in
theorem l4Before_any (r : Nat → Int) (hr : ∀ i, i < 4 → 0 ≤ r i ∧ r i ≤ 17) (w : World) : Calls Try.prog 44 #[.agg #[.int .i64 (r 0), .int .i64 (r 1), .int .i64 (r 2), .int .i64 (r 3)]] w fun e w' => ∃ A c, e = .returned (.slice A (rbL r).length c) ∧ Sl w' w.heap.size A ((rbL r).length * 4) (rsC (rbL r)) ∧ Below w.heap.size w w' := by
  obtain ⟨i0s, hi0, hz0, hz1, hz2⟩ := info_parts info_int3
  obtain ⟨hp4, hpk, hpe⟩ := pre_at r
  obtain ⟨P, hP⟩ : ∃ P, P = preL r := ⟨_, rfl⟩
  have HPI := hide (exL_in hr)
  have HR := hide hr
  have HRB := hide (show rbL r = putO ltR eqR (rfL (slP r) (preL r) 16) from rfl)
  rw [← hP] at hp4 hpk hpe HPI HRB
  obtain ⟨R, hR⟩ : ∃ R, R = rbL r := ⟨_, rfl⟩
  rw [← hR] at HRB ⊢
  have HPK := hide hpk
  have HPE := hide hpe
  clear hP hR hr hpk hpe
  obtain ⟨np, hnp⟩ : ∃ np, np = P.length := ⟨_, rfl⟩
  have HNP := hide hnp
  rw [← hnp] at hp4
  clear hnp
  go_enter Try.func44, Try.ntmps44
  go_upto_region 1 with (fail)
  generalize hW : w.alloc _ = w1
  have hB : Below w.heap.size w w1 := by (rw [← hW]; exact (by repeat (first | (with_reducible exact Below.refl _ _) | (with_reducible assumption) | (with_reducible refine below_go ?_ (by with_reducible assumption)) | (with_reducible refine below_new ?_ _) | ((with_reducible refine below_put ?_ ?_ _); rotate_left; (dsimp only; omega)) | (with_reducible refine Below.drew ?_) | (with_reducible refine below_dn ?_ _))))
  have hsz : Hid (w1.heap.size = w.heap.size + 1) := hide (by rw [← hW]; simp)
  have i0 : Has w1 (w.heap.size) 4 (fun o => .int .i64 (r o)) := by (rw [← hW]; repeat (first | (refine Has.new ?_ rfl; simp; done) | refine Has.alloc ?_ _))
  have ci0 := i0.1; have fi0 := i0.2.1; have zi0 := i0.2.2
  clear hW
  clear ci0 fi0 zi0 hsz
  go_upto_region 2 with (fail)
  generalize hW : World.alloc w1 _ = w3
  have hB' : Below w.heap.size w w3 := by (rw [← hW]; exact (by repeat (first | (with_reducible exact Below.refl _ _) | (with_reducible assumption) | (with_reducible refine below_go ?_ (by with_reducible assumption)) | (with_reducible refine below_new ?_ _) | ((with_reducible refine below_put ?_ ?_ _); rotate_left; (dsimp only; omega)) | (with_reducible refine Below.drew ?_) | (with_reducible refine below_dn ?_ _))))
  have i0' : Has w3 w.heap.size 4 (fun o => .int .i64 (r o)) := by (rw [← hW]; exact i0.alloc _)
  have h3 : Has w3 w1.heap.size ((putO ltR eqR (rfL (slP r) P 0)).length * 4) (rsC (putO ltR eqR (rfL (slP r) P 0))) := by
    rw [← hW, show putO ltR eqR (rfL (slP r) P 0) = [] by simp [putO, rfL]]
    have h := (Has.new' (w := w1) (cs := #[]) (T := 22) (n := 0) rfl).congr (d := rsC []) (fun o ho => absurd ho (Nat.not_lt_zero o))
    simpa using h
  have hg3 : w.heap.size + 1 ≤ w1.heap.size := i0.2.2
  clear hB i0 hW
  have hB := hB'; have i0 := i0'
  clear hB' i0'
  generalize w1.heap.size = E3 at *
  clear w1
  go_wp2_with fail
  go_loopw [3, 4] (fun v3 v4 wr => ∃ (k g c : Nat), v3 = .slice (some ⟨g, 0, none⟩) (putO ltR eqR (rfL (slP r) P k)).length c ∧ k ≤ 16 ∧ v4 = .int .i64 k ∧ (putO ltR eqR (rfL (slP r) P k)).length ≤ c ∧ w.heap.size + 1 ≤ g ∧ Has wr g ((putO ltR eqR (rfL (slP r) P k)).length * 4) (rsC (putO ltR eqR (rfL (slP r) P k))) ∧ Below w.heap.size w wr ∧ Has wr w.heap.size 4 (fun o => .int .i64 (r o))) (fun _ v4 _ => 16 - (intOf v4).toNat)
  case atStart => exact ⟨0, _, _, rfl, by omega, rfl, Nat.le_refl _, hg3, h3, hB, i0⟩
  case round =>
    clear hB i0 h3 hg3
    obtain ⟨k, g, c, rfl, hk, rfl, hc, hg, h3, hB, i0⟩ := hrel
    by_cases h16 : k = 16
    · subst h16
      rw [← HRB.out] at h3 ⊢
      go_wp2
      go_ret
      exact ⟨_, _, rfl, fun _ => ⟨g, rfl, by omega, h3⟩, hB⟩
    · have hlt : k < 16 := by omega
      have hlti : (k : Int) < 16 := by omega
      have hdr : decide ((k : Int) < 16) = true := decide_eq_true hlti
      have hl0 := Nat.le_trans (putO_len ltR eqR (rfL (slP r) P k)) (rfL_len (slP r) P k)
      have HSU := hide (rfL_succ (slP r) P k)
      obtain ⟨L, hL⟩ : ∃ L, L = putO ltR eqR (rfL (slP r) P k) := ⟨_, rfl⟩
      rw [← hL] at hc h3 hl0 ⊢
      have HL := hide hL
      have hl1 : L.length ≤ 256 := by omega
      clear hL h16 hl0
      go_upto_region 6 with (fail)
      generalize hW : World.alloc wr _ = w3
      have hB' : Below w.heap.size w w3 := by (rw [← hW]; exact (by repeat (first | (with_reducible exact Below.refl _ _) | (with_reducible assumption) | (with_reducible refine below_go ?_ (by with_reducible assumption)) | (with_reducible refine below_new ?_ _) | ((with_reducible refine below_put ?_ ?_ _); rotate_left; (dsimp only; omega)) | (with_reducible refine Below.drew ?_) | (with_reducible refine below_dn ?_ _))))
      have own : w3.ownsRow wr.heap.size 3 1 (.slice (some ⟨wr.heap.size, 0, none⟩) 0 0) 0 [] := own_made0 hW (Nat.le_refl _)
      have i0' := Has.at hW (i0.alloc _)
      have h3' := Has.at hW (h3.alloc _)
      have h3z := h3.2.2
      have h0z := i0.2.2
      have hsz3 : wr.heap.size ≤ w3.heap.size := by (rw [← hW]; simp)
      clear hW hB i0 h3
      generalize wr.heap.size = E5 at *
      clear wr
      go_wp2_with fail
      go_loopw [5, 6] (fun v5 v6 wr => ∃ (j : Nat) (u : Value), u = v5 ∧ j ≤ np ∧ v6 = .int .i64 j ∧ wr.ownsRow E5 3 1 u (exL k 0 (P.take j)).length (nints (exL k 0 (P.take j))) ∧ E5 ≤ wr.heap.size ∧ Below w.heap.size w wr ∧ Has wr w.heap.size 4 (fun o => .int .i64 (r o)) ∧ Has wr g (L.length * 4) (rsC L)) (fun _ v6 _ => 4 - (intOf v6).toNat)
      case atStart => exact ⟨0, _, rfl, by omega, rfl, own, hsz3, hB', i0', h3'⟩
      case round =>
        clear hB' i0' h3' own
        rename_i v5 _
        obtain ⟨j, v5, rfl, hj, rfl, own, hE5, hB, i0, h3⟩ := hrel
        by_cases hjn : j < np
        · obtain ⟨hpos, hT⟩ := HPK.out j (by rw [← HNP.out]; exact hjn)
          have ht := HR.out j (by omega)
          have a0 : (0 : Int) ≤ j := by omega
          have a1 : (j : Int) < 4 := by omega
          have q1 : wr.cell? ⟨w.heap.size, j, none⟩ = some (.int .i64 (r j)) := i0.1 _ (by omega)
          have han := bit_any k j hlt (by omega)
          have HX := hide (exL_snoc k (r j) (P.take j) 0)
          have HTL : Hid (0 + (P.take j).length = j) := hide (by rw [List.length_take, ← HNP.out]; omega)
          have hel : Hid ((exL k 0 (P.take j)).length ≤ 8) := hide (by have h1 := exL_len k (P.take j) 0; rw [List.length_take] at h1; have := HNP.out; omega)
          have HT := hide hT
          clear hT
          rcases Nat.mod_two_eq_zero_or_one (k / 2 ^ j) with hb | hb
          · rw [hb] at han
            have HN := hide (show exL k 0 (P.take (j + 1)) = exL k 0 (P.take j) ++ [r j] by rw [HT.out, HX.out, HTL.out, if_neg (by rw [hb]; decide)])
            clear hb
            have he8 := hel.out
            generalize hm : (exL k 0 (P.take j)).length = m at *
            have HM := hide hm
            clear hm
            go_wp2_with (at_builtin; refine wpList_append_own _ rfl _ _ 54 rfl E5 3 i0s (.int .i64 0) 1 8 Try.underlying54 hi0 hz0 hz1 hz2 rfl (by decide) _ m (nints (exL k 0 (P.take j))) rfl (own.alloc _) ⟨wr.heap.size, 0, none⟩ 1 1 [.int .i64 (r j)] rfl rfl one_cell (fun u hu => by simp at hu; subst hu; rfl) (by unfold maxLen; omega) (by omega) (by simp; omega) ?_)
            intro v' w3 hown' hgrow _
            have hB1 : Below w.heap.size w w3 := (below_new hB _).grown hgrow (by have := hB.size; simp; omega) (fun q hq => Nat.le_trans (Nat.le_of_lt h0z) (own.lt q hq).1)
            have j0 := (i0.alloc _).grown hgrow (own_at_ne own h0z)
            have j3 := (h3.alloc _).grown hgrow (own_at_ne own h3z)
            have own2 : w3.ownsRow E5 3 1 v' (exL k 0 (P.take (j + 1))).length (nints (exL k 0 (P.take (j + 1)))) := by
              rw [HN.out, nints_snoc, List.length_append, HM.out]; exact hown'
            have hE6 : E5 ≤ w3.heap.size := Nat.le_trans (by simpa using Nat.le_succ_of_le hE5) hgrow.size
            clear hown' hB hgrow own i0 h3
            go_wp2
            go_roundw
            case rel => exact ⟨j + 1, _, rfl, by omega, by go_num, own2, hE6, hB1, j0, j3⟩
            case measure => simp [intOf]; omega
          · rw [hb] at han
            have HN := hide (show exL k 0 (P.take (j + 1)) = exL k 0 (P.take j) ++ [r j - 1, r j - 1] by rw [HT.out, HX.out, HTL.out, if_pos hb])
            have s1 : IntKind.i64.wrap (r j - 1) = r j - 1 := IntWalk.i64_in _ (by omega)
            clear hb
            have he8 := hel.out
            generalize hm : (exL k 0 (P.take j)).length = m at *
            have HM := hide hm
            clear hm
            have hbz : E5 ≤ (World.drew wr).heap.size := hE5
            have hw5 : w.heap.size ≤ E5 := Nat.le_of_lt h0z
            have hE5' := hE5; have zi0 := i0.2.2; have zh3 := h3.2.2
            clear hE5
            go_wp2_with fail
            refine wp_region_noPanic ?_
            refine wp_region_held_drew (S := (fun w' => w'.cell? ⟨w.heap.size, j, none⟩ = some (.int .i64 (r j)))) (by kernel_rfl) ?hS01 (fun hHeld => ?_)
            case hS01 => exact (Has.cl (Has.drew i0) (by omega))
            have hB' : Below w.heap.size w (World.drew _) := Below.drew hB
            have i0' := Has.drew i0
            have h3' := Has.drew h3
            have ownx := own_draw own; clear own; have own := ownx; clear ownx
            (try clear ci0); (try clear fi0)
            (try clear ch3); (try clear fh3)
            generalize hWW : World.drew _ = wx at *; clear hWW
            clear hB; have hB := hB'; clear hB'; clear i0 zi0; have i0 := i0'; clear i0'; have zi0 := i0.2.2; clear h3 zh3; have h3 := h3'; clear h3'; have zh3 := h3.2.2
            refine take_d (i := 0) (some 32) (v := ?_) rfl rfl (by kernel_rfl) (by kernel_rfl) (by kernel_rfl) (fun _ _ _ h => h) (Or.inl ⟨by rfl, ?_⟩) (by assumption) ?_
            rotate_left; (intro w hSw; have hq := hSw; clear hSw; go_simp; try with_reducible rfl)
            all_goals (try simp only [Act.put, List.setIfInBounds_toArray, List.set_cons_zero, List.set_cons_succ])
            refine take_d (i := 1) (some 33) (v := ?_) rfl rfl (by kernel_rfl) (by kernel_rfl) (by kernel_rfl) (fun _ _ _ h => h) (Or.inl ⟨by rfl, ?_⟩) (by assumption) ?_
            rotate_left; (intro w hSw; have hq := hSw; clear hSw; go_simp; try with_reducible rfl)
            all_goals (try simp only [Act.put, List.setIfInBounds_toArray, List.set_cons_zero, List.set_cons_succ])
            refine take_d (i := 2) (some 34) (v := ?_) rfl rfl (by kernel_rfl) (by kernel_rfl) (by kernel_rfl) (fun _ _ _ h => h) (Or.inl ⟨by rfl, ?_⟩) (by assumption) ?_
            rotate_left; (intro w hSw; have hq := hSw; clear hSw; go_simp; try with_reducible rfl)
            all_goals (try simp only [Act.put, List.setIfInBounds_toArray, List.set_cons_zero, List.set_cons_succ])
            refine take_d (i := 3) (some 35) (v := ?_) rfl rfl (by kernel_rfl) (by kernel_rfl) (by kernel_rfl) (fun _ _ _ h => h) (Or.inl ⟨by rfl, ?_⟩) (by assumption) ?_
            rotate_left; (intro w hSw; have hq := hSw; clear hSw; go_simp; try with_reducible rfl)
            all_goals (try simp only [Act.put, List.setIfInBounds_toArray, List.set_cons_zero, List.set_cons_succ])
            refine take_d (i := 4) (some 36) (v := ?_) rfl rfl (by kernel_rfl) (by kernel_rfl) (by kernel_rfl) (fun _ _ _ h => h) (Or.inl ⟨by rfl, ?_⟩) (by assumption) ?_
            rotate_left; (intro w hSw; have hq := hSw; clear hSw; go_simp; try with_reducible rfl)
            all_goals (try simp only [Act.put, List.setIfInBounds_toArray, List.set_cons_zero, List.set_cons_succ])
            refine take_d (i := 5) (some 37) (v := ?_) rfl rfl (by kernel_rfl) (by kernel_rfl) (by kernel_rfl) (fun _ _ _ h => h) (Or.inl ⟨by rfl, ?_⟩) (by assumption) ?_
            rotate_left; (intro w hSw; have hq := hSw; clear hSw; go_simp; try with_reducible rfl)
            all_goals (try simp only [Act.put, List.setIfInBounds_toArray, List.set_cons_zero, List.set_cons_succ])
            refine take_d (i := 6) (some 38) (v := ?_) rfl rfl (by kernel_rfl) (by kernel_rfl) (by kernel_rfl) (fun _ _ _ h => h) (Or.inl ⟨by rfl, ?_⟩) (by assumption) ?_
            rotate_left; (intro w hSw; have hq := hSw; clear hSw; go_simp; try with_reducible rfl)
            all_goals (try simp only [Act.put, List.setIfInBounds_toArray, List.set_cons_zero, List.set_cons_succ])
            refine take_d (i := 7) (some 39) (v := ?_) rfl rfl (by kernel_rfl) (by kernel_rfl) (by kernel_rfl) (fun _ _ _ h => h) (Or.inl ⟨by rfl, ?_⟩) (by assumption) ?_
            rotate_left; (intro w hSw; have hq := hSw; clear hSw; go_simp; try with_reducible rfl)
            all_goals (try simp only [Act.put, List.setIfInBounds_toArray, List.set_cons_zero, List.set_cons_succ])
            refine take_d (i := 8) (some 40) (v := ?_) rfl rfl (by kernel_rfl) (by kernel_rfl) (by kernel_rfl) (fun _ _ _ h => h) (Or.inl ⟨by rfl, ?_⟩) (by assumption) ?_
            rotate_left; (intro w hSw; have hq := hSw; clear hSw; go_simp; try with_reducible rfl)
            all_goals (try simp only [Act.put, List.setIfInBounds_toArray, List.set_cons_zero, List.set_cons_succ])
            refine wpAnyH_ready (rs := [9]) (by kernel_rfl) (by simp) ?_
            refine AllReadyH.cons (o := _) rfl (fun K hK => ?_) ?_
            ·
              go_simp
              generalize hW : World.alloc _ _ = w2
              have hB' : Below w.heap.size w w2 := by (rw [← hW]; exact below_new hB _)
              have i0' := Has.at hW (Has.alloc i0 _)
              have h3' := Has.at hW (Has.alloc h3 _)
              have own' := own_at hW own; clear own; have own := own'; clear own'
              have jn := Has.newat (n := 2) hW rfl
              clear hW; clear hB; have hB := hB'; clear hB'; clear i0 zi0; have i0 := i0'; clear i0'; have zi0 := i0.2.2; clear h3 zh3; have h3 := h3'; clear h3'; have zh3 := h3.2.2
              generalize hS : (World.heap wx).size = E1 at *
              clear hS; generalize hWW : w2 = wx at *; clear hWW
              refine hK.out _ _ ?hS2 (fun hHeld => ?_)
              case hS2 => exact (Has.cl i0 (by omega))
              clear hK K
              (try simp only [Act.put, List.setIfInBounds_toArray, List.set_cons_zero, List.set_cons_succ])
              refine wpAnyH_ready (rs := [10]) (by kernel_rfl) (by simp) ?_
              refine AllReadyH.cons (o := _) rfl (fun K hK => ?_) ?_
              ·
                rw [if_pos (by rfl)]
                refine wp_append_own _ _ _ 54 (by rfl) (E5) 3 i0s (.int .i64 0) 1 8 Try.underlying54 hi0 hz0 hz1 hz2 rfl (by decide) _ _ _ (by rfl) own ⟨E1, 0, none⟩ 2 2 [.int .i64 (r j - 1), .int .i64 (r j - 1)] (by rfl) rfl (nums_two jn) (fun u hu => by simp at hu; subst hu; rfl) (by unfold maxLen; omega) (by omega) (Nat.le_of_lt (Nat.lt_of_le_of_lt hbz jn.2.2)) ?_
                intro v1 w2 hown' hgrow _
                change K (Act.put _ (some 42) _) _
                have hB' := hB.grown hgrow hB.size (fun q hq => Nat.le_trans (by assumption) (own.lt q hq).1)
                have i0' := i0.grown hgrow (own_at_ne own (by assumption))
                have h3' := h3.grown hgrow (own_at_ne own (by assumption))
                have hbz' := Nat.le_trans (Nat.le_of_lt (Nat.lt_of_le_of_lt hbz jn.2.2)) hgrow.size
                clear own hgrow jn hbz; have own := hown'; have hbz := hbz'; clear hown' hbz'; clear hB; have hB := hB'; clear hB'; clear i0 zi0; have i0 := i0'; clear i0'; have zi0 := i0.2.2; clear h3 zh3; have h3 := h3'; clear h3'; have zh3 := h3.2.2
                generalize hWW : w2 = wx at *; clear hWW
                refine hK.out _ _ ?hS3 (fun hHeld => ?_)
                case hS3 => exact (Has.cl i0 (by omega))
                clear hK K
                (try simp only [Act.put, List.setIfInBounds_toArray, List.set_cons_zero, List.set_cons_succ])
                refine take_d (i := 11) (some 5) (v := ?_) rfl rfl (by kernel_rfl) (by kernel_rfl) (by kernel_rfl) (fun _ _ _ h => h) (Or.inl ⟨by rfl, ?_⟩) (by assumption) ?_
                rotate_left; (intro w hSw; have hq := hSw; clear hSw; go_simp; try with_reducible rfl)
                all_goals (try simp only [Act.put, List.setIfInBounds_toArray, List.set_cons_zero, List.set_cons_succ])
                refine wpAnyH_done (by kernel_rfl) ?_ _
                (try refine NoPanic.normal ?_)
                have own2 : wx.ownsRow E5 3 1 v1 (exL k 0 (P.take (j + 1))).length (nints (exL k 0 (P.take (j + 1)))) := by
                  rw [HN.out, nints_snoc2, List.length_append, HM.out]; exact own
                clear own
                go_wp2
                go_roundw
                case rel => exact ⟨j + 1, _, rfl, by omega, by go_num, own2, hbz, hB, i0, h3⟩
                case measure => (simp [intOf]; omega)
              exact AllReadyH.nil
            exact AllReadyH.nil
        · obtain rfl : j = np := by omega
          have HTA := hide (show P.take j = P from List.take_of_length_le (by rw [← HNP.out]; exact Nat.le_refl _))
          rw [HTA.out] at own
          obtain ⟨T, hT⟩ : ∃ T, T = exL k 0 P := ⟨_, rfl⟩
          have HPT := HPI.out k
          have htl : T.length ≤ 8 := by rw [hT]; have h1 := exL_len k P 0; have := HNP.out; omega
          rw [← hT] at own HPT
          have HT := hide hT
          have HIN := hide HPT
          obtain ⟨A5, c5, rfl, hN5⟩ := own_nums (q := none) own ⟨rfl, rfl⟩ (fun b hb => by cases hb)
          have hl1h := (l1Has_any wr none A5 T.length c5 T rfl (by omega) hN5 0)
          have HN5 := hide hN5
          clear own hN5 HPT hT
          have hj0 : (0 : Int) ≤ j := by omega
          have hex : ¬ ((j : Int) < 4) ∨ ((j : Int) < 4 ∧ ¬ 0 < r j ∧ wr.cell? ⟨w.heap.size, j, none⟩ = some (.int .i64 (r j))) := by
            rcases (by omega : j = 4 ∨ j < 4) with h4 | h4
            · exact .inl (by omega)
            · refine .inr ⟨by omega, ?_, i0.1 _ h4⟩
              have h5 := HPE.out (by rw [← HNP.out]; exact h4)
              rw [← HNP.out] at h5
              omega
          rcases hex with hex | ⟨hex, hex2, q1⟩
          all_goals
            go_upto_region 12 with (fail)
            by_cases hlen : 4 < T.length
            · have hli : (4 : Int) < T.length := by omega
              have HS2 := hide (show putO ltR eqR (rfL (slP r) P (k + 1)) = L by rw [HSU.out, if_neg (by rw [← HT.out]; omega), List.append_nil, HL.out])
              go_wp2
              go_roundw
              case rel => exact ⟨k + 1, g, c, by rw [HS2.out], by omega, by go_num, by rw [HS2.out]; exact hc, hg, by rw [HS2.out]; exact h3, hB, i0⟩
              case measure => (simp [intOf]; omega)
            · have hli : ¬ (4 : Int) < T.length := by omega
              by_cases h0 : (0 : Int) ∈ T
              · rw [decide_eq_true h0] at hl1h
                have HQ := hide hl1h
                have HS2 := hide (show putO ltR eqR (rfL (slP r) P (k + 1)) = L by rw [HSU.out, if_neg (by rw [← HT.out]; exact fun hh => hh.2 h0), List.append_nil, HL.out])
                clear hl1h h0
                go_wp2_with (go_at_call 68; (with_reducible refine HQ.out.mono ?_); rintro e w1 ⟨rfl, rfl⟩)
                go_roundw
                case rel => exact ⟨k + 1, g, c, by rw [HS2.out], by omega, by go_num, by rw [HS2.out]; exact hc, hg, by rw [HS2.out]; exact h3, hB, i0⟩
                case measure => (simp [intOf]; omega)
              · rw [decide_eq_false h0] at hl1h
                have HQ := hide hl1h
                have HSP := hide (l4Spread_any T (by omega) wr none A5 c5 HN5.out)
                have HS3 := hide (show rfL (slP r) P (k + 1) = rfL (slP r) P k ++ (spL T 16).filter (slP r) by rw [HSU.out, ← HT.out, if_pos ⟨by omega, h0⟩])
                have hl7 := spL_len T 16
                have HIX := hide (fun i hi => spL_in (n := 16) (i := i) HIN.out hi)
                clear hl1h h0 hlen
                go_upto_region 14 with (first | (go_at_call 68; (with_reducible refine HQ.out.mono ?_); rintro e w1 ⟨rfl, rfl⟩) | (go_at_call 69; (with_reducible refine HSP.out.mono ?_); rintro e w2 ⟨A7, c7, rfl, hc7, hS7, hb2⟩; have hB' : Below w.heap.size w w2 := below_go hB hb2; have i0' := i0.call hb2; have h3' := h3.call hb2; have hS7' := hS7.mono (Nat.zero_le _); clear hS7; have hS7 := hS7'; clear hS7' hB i0 h3 hb2; have hB := hB'; have i0 := i0'; have h3 := h3'; clear hB' i0' h3'))
                obtain ⟨al, hal⟩ : ∃ al, al = spL T 16 := ⟨_, rfl⟩
                rw [← hal] at hS7 hc7 hl7 HS3 HIX ⊢
                have hlR := rfL_len (slP r) P k
                have HPL := hide (fun i => pfL_len (slP r) (rfL (slP r) P k) al i)
                have HPY := hide (fun i h hP => pfL_yes (P := slP r) (L0 := rfL (slP r) P k) (all := al) (i := i) h hP)
                have HPN := hide (fun i h hP => pfL_no (P := slP r) (L0 := rfL (slP r) P k) (all := al) (i := i) h hP)
                have HP0 := hide (show pfL (slP r) (rfL (slP r) P k) al 0 = L by rw [HL.out]; simp [pfL])
                have HP1 := hide (show pfL (slP r) (rfL (slP r) P k) al al.length = putO ltR eqR (rfL (slP r) P (k + 1)) by rw [HS3.out]; simp [pfL])
                obtain ⟨F, hF⟩ : ∃ F : Nat → List (Nat → Int), F = fun i => pfL (slP r) (rfL (slP r) P k) al i := ⟨_, rfl⟩
                have HF := hide hF
                have hFl : Hid (∀ i, (F i).length ≤ 272) := hide (fun i => by rw [hF]; have h1 := HPL.out i; show (pfL (slP r) (rfL (slP r) P k) al i).length ≤ 272; omega)
                have hF0 : L = F 0 := by rw [hF]; exact HP0.out.symm
                have HFN : Hid (F al.length = putO ltR eqR (rfL (slP r) P (k + 1))) := hide (by rw [hF]; exact HP1.out)
                have HFY : Hid (∀ i, i < al.length → slP r (atR al i) = true → F (i + 1) = adO ltR eqR (F i) (atR al i)) := hide (by rw [hF]; exact HPY.out)
                have HFX : Hid (∀ i, i < al.length → slP r (atR al i) = false → F (i + 1) = F i) := hide (by rw [hF]; exact HPN.out)
                clear hF hlR
                rw [hF0] at hc h3 ⊢
                obtain ⟨n7, hn7⟩ : ∃ n7, n7 = al.length := ⟨_, rfl⟩
                have HN7 := hide hn7
                rw [← hn7] at hS7 hc7 hl7 ⊢
                clear hal hn7 hF0 HPL HPY HPN HP0 HP1 HSU HL HT HIN HN5 hc7
                go_wp2_with fail
                go_loopw [3, 8] (fun v3 v8 wr => ∃ (i g' c' : Nat), v3 = .slice (some ⟨g', 0, none⟩) (F i).length c' ∧ i ≤ n7 ∧ v8 = .int .i64 i ∧ (F i).length ≤ c' ∧ w.heap.size + 1 ≤ g' ∧ Has wr g' ((F i).length * 4) (rsC (F i)) ∧ Below w.heap.size w wr ∧ Has wr w.heap.size 4 (fun o => .int .i64 (r o)) ∧ Sl wr 0 A7 (n7 * 4) (rsC al)) (fun _ v8 _ => n7 - (intOf v8).toNat)
                case atStart => exact ⟨0, _, _, rfl, by omega, rfl, hc, hg, h3, hB, i0, hS7⟩
                case round =>
                  clear hB i0 h3 hg hc hS7
                  obtain ⟨i, g', c', rfl, hi, rfl, hc, hg, h3, hB, i0, hS7⟩ := hrel
                  have hi0 : (0 : Int) ≤ i := by omega
                  by_cases hin : i < n7
                  · have hini : (i : Int) < n7 := by omega
                    obtain ⟨g7, rfl, -, h7⟩ := hS7 (by omega)
                    have hr7 : RRo g7 i (atR al i) wr := rro_of h7 (by omega)
                    have hrx := hide (HIX.out i (by rw [← HN7.out]; exact hin))
                    have HY := hide (HFY.out i (by rw [← HN7.out]; exact hin))
                    have HX := hide (HFX.out i (by rw [← HN7.out]; exact hin))
                    have hl := hFl.out i
                    clear hS7
                    obtain ⟨b, hb⟩ : ∃ b, b = atR al i := ⟨_, rfl⟩
                    rw [← hb] at hr7 hrx HY HX
                    have HBB := hide hb
                    clear hb
                    go_upto_region 18 with (first | (refine load_RRo rfl _ rfl _ _ _ rfl hr7 ?_) | (go_at_call 58; (with_reducible refine (l2Row_any b hrx.out _).mono ?_); rintro e w2 ⟨rfl, hb2⟩; have hB' : Below w.heap.size w w2 := below_go (by repeat (first | (with_reducible exact Below.refl _ _) | (with_reducible assumption) | (with_reducible refine below_go ?_ (by with_reducible assumption)) | (with_reducible refine below_new ?_ _) | ((with_reducible refine below_put ?_ ?_ _); rotate_left; (dsimp only; omega)) | (with_reducible refine Below.drew ?_) | (with_reducible refine below_dn ?_ _))) hb2; have i0' : Has w2 (w.heap.size) 4 _ := Has.call (by repeat (first | (with_reducible assumption) | (with_reducible apply Has.set) | ((with_reducible apply Has.other); (case hne => (dsimp only; omega))) | (with_reducible apply Has.alloc) | (with_reducible apply Has.drew) | (with_reducible apply Has.drewN))) hb2; have h3' : Has w2 (g') ((F i).length * 4) _ := Has.call (by repeat (first | (with_reducible assumption) | (with_reducible apply Has.set) | ((with_reducible apply Has.other); (case hne => (dsimp only; omega))) | (with_reducible apply Has.alloc) | (with_reducible apply Has.drew) | (with_reducible apply Has.drewN))) hb2; have h7' : Has w2 (g7) (n7 * 4) _ := Has.call (by repeat (first | (with_reducible assumption) | (with_reducible apply Has.set) | ((with_reducible apply Has.other); (case hne => (dsimp only; omega))) | (with_reducible apply Has.alloc) | (with_reducible apply Has.drew) | (with_reducible apply Has.drewN))) hb2; clear hB hb2; have hB := hB'; clear hB'; (try clear fi0); (try clear zi0); (try clear ci0); clear i0; have i0 := i0'; clear i0'; have ci0 := i0.1; have fi0 := i0.2.1; have zi0 := i0.2.2; (try clear fh3); (try clear zh3); (try clear ch3); clear h3; have h3 := h3'; clear h3'; have ch3 := h3.1; have fh3 := h3.2.1; have zh3 := h3.2.2; (try clear fh7); (try clear zh7); (try clear ch7); clear h7; have h7 := h7'; clear h7'; have ch7 := h7.1; have fh7 := h7.2.1; have zh7 := h7.2.2))
                    generalize hW : World.alloc w2 _ = w3
                    have hB' : Below w.heap.size w w3 := by (rw [← hW]; exact below_new hB _)
                    have i0' := Has.at hW (i0.alloc _)
                    have h3' := Has.at hW (h3.alloc _)
                    have h7' := Has.at hW (h7.alloc _)
                    have j9 : Has w3 w2.heap.size 4 (fun o => .int .i64 ((SR.slid b).out o)) := (Has.newat (n := 4) hW rfl).congr fun o ho => lit4' _ o ho
                    have hz3 : w.heap.size + 1 ≤ w3.heap.size := by (have h1 := i0'.2.2; omega)
                    clear hW hB i0 h3 h7 hr7
                    have hB := hB'; have i0 := i0'; have h3 := h3'; have h7 := h7'
                    clear hB' i0' h3' h7'
                    have hr7 : RRo g7 i b w3 := by rw [HBB.out]; exact rro_of h7 (by omega)
                    generalize w2.heap.size = E9 at *
                    have hE := eql_R (SR.slid b).out r
                    have HSL : Hid (slP r b = eqR (SR.slid b).out r) := hide rfl
                    cases he : eqR (SR.slid b).out r
                    · rw [he] at hE
                      have HX2 := hide (HX.out (by rw [HSL.out, he]))
                      clear he
                      go_wp2_with (first | (refine load_A4 rfl _ rfl _ _ rfl (by repeat (first | (with_reducible assumption) | (with_reducible apply Has.set) | ((with_reducible apply Has.other); (case hne => (dsimp only; omega))) | (with_reducible apply Has.alloc) | (with_reducible apply Has.drew) | (with_reducible apply Has.drewN))) (by omega) ?_))
                      go_roundw
                      case rel => exact ⟨i + 1, g', c', by rw [HX2.out], by omega, by go_num, by rw [HX2.out]; exact hc, hg, by rw [HX2.out]; exact h3, hB, i0, fun _ => ⟨g7, rfl, Nat.zero_le _, h7⟩⟩
                      case measure => (simp [intOf]; omega)
                    · rw [he] at hE
                      have HY2 := hide (HY.out (by rw [HSL.out, he]))
                      clear he
                      go_wp2_with (first | (refine load_RRo rfl _ rfl _ _ _ rfl hr7 ?_) | (refine load_A4 rfl _ rfl _ _ rfl (by repeat (first | (with_reducible assumption) | (with_reducible apply Has.set) | ((with_reducible apply Has.other); (case hne => (dsimp only; omega))) | (with_reducible apply Has.alloc) | (with_reducible apply Has.drew) | (with_reducible apply Has.drewN))) (by omega) ?_) | (go_at_call 70; (with_reducible refine (l4Put_any (F i) (by omega) g' c' hc b _ h3).mono ?_); rintro e w2 ⟨g2, c2, rfl, hc2, h32, hg2, hb2⟩; have hgn : w.heap.size + 1 ≤ g2 := hg2.elim (fun e => by omega) (fun h => by omega); have hB' : Below w.heap.size w w2 := below_go (by repeat (first | (with_reducible exact Below.refl _ _) | (with_reducible assumption) | (with_reducible refine below_go ?_ (by with_reducible assumption)) | (with_reducible refine below_new ?_ _) | ((with_reducible refine below_put ?_ ?_ _); rotate_left; (dsimp only; omega)) | (with_reducible refine Below.drew ?_) | (with_reducible refine below_dn ?_ _))) hb2; have i0' : Has w2 (w.heap.size) 4 _ := Has.call (by repeat (first | (with_reducible assumption) | (with_reducible apply Has.set) | ((with_reducible apply Has.other); (case hne => (dsimp only; omega))) | (with_reducible apply Has.alloc) | (with_reducible apply Has.drew) | (with_reducible apply Has.drewN))) hb2; have h7' : Has w2 (g7) (n7 * 4) _ := Has.call (by repeat (first | (with_reducible assumption) | (with_reducible apply Has.set) | ((with_reducible apply Has.other); (case hne => (dsimp only; omega))) | (with_reducible apply Has.alloc) | (with_reducible apply Has.drew) | (with_reducible apply Has.drewN))) hb2; clear hB hb2; have hB := hB'; clear hB'; (try clear fi0); (try clear zi0); (try clear ci0); clear i0; have i0 := i0'; clear i0'; have ci0 := i0.1; have fi0 := i0.2.1; have zi0 := i0.2.2; (try clear fh7); (try clear zh7); (try clear ch7); clear h7; have h7 := h7'; clear h7'; have ch7 := h7.1; have fh7 := h7.2.1; have zh7 := h7.2.2))
                      rw [← HY2.out] at hc2 h32
                      go_roundw
                      case rel => exact ⟨i + 1, g2, c2, by rw [HY2.out], by omega, by go_num, hc2, hgn, h32, hB, i0, fun _ => ⟨g7, rfl, Nat.zero_le _, h7⟩⟩
                      case measure => (simp [intOf]; omega)
                  · obtain rfl : i = n7 := by omega
                    rw [HN7.out, HFN.out] at hc h3
                    go_wp2
                    go_roundw
                    case rel => exact ⟨k + 1, g', c', by rw [HN7.out, HFN.out], by omega, by go_num, hc, hg, h3, hB, i0⟩
                    case measure => (simp [intOf]; omega)

end Go.Proofs.Ytmbmknpjmkgjlaa
