/-
  Contract: the rows before a row (the program's rowsBefore).
-/
import Derived.Test.YtmbmknpjmkgjlaaRbW
import Derived.Test.YtmbmknpjmkgjlaaSlideRow
namespace Go.Proofs.Ytmbmknpjmkgjlaa
open Go.RowKit

set_option maxHeartbeats 2000000 in
theorem tiles_cap (r : Nat → Int) (w : World) : Calls Try.prog 57 #[.agg #[.int .i64 (r 0), .int .i64 (r 1), .int .i64 (r 2), .int .i64 (r 3)]] w fun e w' => ∃ A cap, e = .returned (.slice A (tilesL r).length cap) ∧ (tilesL r).length ≤ cap ∧ Sl w' w.heap.size A (tilesL r).length (fun i => .int .i64 ((tilesL r).getD i 0)) ∧ Below w.heap.size w w' := by
  have hl := tilesL_len r
  have HL := hide hl
  clear hl
  go_enter Try.func57, Try.ntmps57
  go_wp2_with fail
  generalize hW : w.alloc _ = w1
  have hB : Below w.heap.size w w1 := by (rw [← hW]; exact (by repeat (first | (with_reducible exact Below.refl _ _) | (with_reducible assumption) | (with_reducible refine below_go ?_ (by with_reducible assumption)) | (with_reducible refine below_new ?_ _) | ((with_reducible refine below_put ?_ ?_ _); rotate_left; (dsimp only; omega)) | (with_reducible refine Below.drew ?_) | (with_reducible refine below_dn ?_ _))))
  have i0 : Has w1 (w.heap.size) 4 (fun o => .int .i64 (r o)) := by (rw [← hW]; repeat (first | (refine Has.new ?_ rfl; simp; done) | refine Has.alloc ?_ _))
  have ci0 := i0.1; have fi0 := i0.2.1; have zi0 := i0.2.2
  clear hW
  refine (clone_any w.heap.size 0 4 4 4 r w1 i0 (by omega) (by omega)).mono ?_
  rintro e w2 ⟨v, rfl, hown, hb2⟩
  obtain ⟨A, cap, rfl, hcap, hS⟩ := own_sl hown
  obtain ⟨g, rfl, hg, hH⟩ := hS (by omega)
  have hg' : w.heap.size ≤ g := by have := hB.size; omega
  have hB2 := below_go hB hb2
  clear hown hb2 hB ci0 fi0 zi0 i0 hS hg
  have hH2 := hH.congr (d := fun o => .int .i64 (r o)) (fun o ho => by simp [ho])
  have H2 := hide hH2
  clear hH hH2
  go_wp2_with fail
  refine (deleteFunc0_any g 4 cap r w2 H2.out (by omega) hcap).mono ?_
  rintro e w3 ⟨rfl, ho, hH3⟩
  go_wp2
  go_ret
  exact ⟨_, _, rfl, Nat.le_trans HL.out hcap, fun _ => ⟨g, rfl, hg', hH3⟩, below_only hB2 ho hg'⟩

theorem nums_of_sl {w : World} {B : Nat} {A : Option Addr} {l : List Int} (h : Sl w B A l.length (fun i => .int .i64 (l.getD i 0))) : NumsAt w none A l := by
  intro hl
  obtain ⟨g, rfl, _, hH⟩ := h hl
  exact ⟨g, 0, l.length, fun i => l.getD i 0, rfl, (fun he => by cases he), by omega, hH, fun i _ => by rw [Nat.zero_add]⟩

theorem below_none {w w' : World} (h : w.grownBy w' none) : Below w.heap.size w w' := ⟨h.os, h.tape, h.output, h.size, fun k hk => h.block k hk (by simp)⟩
theorem own_made' {w w1 : World} {T size base : Nat} (hW : w.alloc (.cells #[] T) = w1) (hb : base = w.heap.size) : w1.ownsRow base T size (.slice (some ⟨base, 0, none⟩) 0 0) 0 [] := by
  subst hb; exact own_made0 hW (Nat.le_refl _)

set_option maxHeartbeats 16000000 in
set_option maxRecDepth 100000 in
theorem rowsBefore_flush (r : Nat → Int) (hr : ∀ i, i < 4 → 0 ≤ r i ∧ r i ≤ 17) (hfl : flP r) (w : World) : Calls Try.prog 45 #[.agg #[.int .i64 (r 0), .int .i64 (r 1), .int .i64 (r 2), .int .i64 (r 3)]] w fun e w' => ∃ A c, e = .returned (.slice A (rbL r).length c) ∧ Sl w' w.heap.size A ((rbL r).length * 4) (rsC (rbL r)) ∧ Below w.heap.size w w' := by
  obtain ⟨i1s, hj0, hj1, hj2, hj3⟩ := info_parts info_Rw3
  have hf : flI r = true := by rw [flP_flI hr]; exact decide_eq_true hfl
  have htp := tilesL_pos r hr
  have htl := tilesL_len r
  obtain ⟨L, hL⟩ : ∃ L, L = apL [] (tilesL r) := ⟨_, rfl⟩
  have hLn : L.length ≤ 16 := by rw [hL]; exact Nat.le_trans (apL_len _ _) (Nat.pow_le_pow_right (by decide) htl)
  have HSZ := hide (fun ts (h : ts ∈ L) => ap_sz (tilesL r) [] ts (hL ▸ h))
  have HIN := hide (fun ts (h : ts ∈ L) => ap_in (tilesL r) [] htp (fun t ht => by cases ht) ts (hL ▸ h))
  have HFIN := hide (show prP (slP r) L L.length = prL (slP r) (tilesL r) by rw [hL]; exact prP_all _ _)
  have HCE := hide (fun l' hq hs => prior_cells hr hfl (l' := l') hq hs)
  have HAP := hide (fun (wx : World) A cl (hcl : (tilesL r).length ≤ cl) (hN : NumsAt wx none A (tilesL r)) => apart_any wx.heap.size (tilesL r) htp [] (by simp; omega) [] (by have h1 : 2 ^ (tilesL r).length ≤ 2 ^ 4 := Nat.pow_le_pow_right (by decide) htl; simp; omega) wx (.slice none 0 0) (Nat.le_refl _) ⟨[], own_none _ _ _ _, rfl, fun j h => absurd h (Nat.not_lt_zero j)⟩ 0 (tilesL r).length none A 0 cl rfl rfl hcl (fun _ => ⟨rfl, rfl⟩) (fun h => absurd h (Nat.lt_irrefl 0)) hN)
  rw [List.nil_append, ← hL] at HAP
  have HR := hide hr
  have HTI := hide (tiles_cap r)
  clear hr hfl htp hL
  generalize tilesL r = TL at *
  go_enter Try.func45, Try.ntmps45
  go_upto_region 1 with (fail)
  generalize hW : w.alloc _ = w1
  have hB : Below w.heap.size w w1 := by (rw [← hW]; exact (by repeat (first | (with_reducible exact Below.refl _ _) | (with_reducible assumption) | (with_reducible refine below_go ?_ (by with_reducible assumption)) | (with_reducible refine below_new ?_ _) | ((with_reducible refine below_put ?_ ?_ _); rotate_left; (dsimp only; omega)) | (with_reducible refine Below.drew ?_) | (with_reducible refine below_dn ?_ _))))
  have hsz : Hid (w1.heap.size = w.heap.size + 1) := hide (by rw [← hW]; simp)
  have i0 : Has w1 (w.heap.size) 4 (fun o => .int .i64 (r o)) := by (rw [← hW]; repeat (first | (refine Has.new ?_ rfl; simp; done) | refine Has.alloc ?_ _))
  have ci0 := i0.1; have fi0 := i0.2.1; have zi0 := i0.2.2
  clear hW
  clear ci0 fi0 zi0
  go_upto_region 2 with (fail)
  generalize hW : World.alloc w1 _ = w3
  have HEM := hide (fun w2 (hb : Below w3.heap.size w3 w2) => empty_new hW hb)
  have own : w3.ownsRow w1.heap.size 22 4 (.slice (some ⟨w1.heap.size, 0, none⟩) 0 0) (gL (slP r) L 0 0).length (rsV (gL (slP r) L 0 0)) := by
    have e : gL (slP r) L 0 0 = [] := by simp [gL, prP, spL]
    rw [e]; exact own_made0 hW (Nat.le_refl _)
  have hB' : Below w.heap.size w w3 := by (rw [← hW]; exact below_new hB _)
  have i0' := Has.at hW (i0.alloc _)
  have hA : Below w3.heap.size w3 w3 := Below.refl _ _
  have h0E := i0.2.2
  clear hW hB i0 hsz
  have hB := hB'; have i0 := i0'
  clear hB' i0'
  generalize w1.heap.size = E3 at *
  go_upto_region 5 with (first | (refine load_A4 rfl _ rfl _ _ rfl (by repeat (first | (with_reducible assumption) | (with_reducible apply Has.set) | ((with_reducible apply Has.other); (case hne => (dsimp only; omega))) | (with_reducible apply Has.alloc) | (with_reducible apply Has.drew) | (with_reducible apply Has.drewN))) (by omega) ?_) | (go_at_call 64; (with_reducible refine (Calls.bool_as (isFlush_any r _) hf).mono ?_); rintro e w2 ⟨rfl, hb2⟩; have own' := own_call own hb2; clear own; have own := own'; clear own'; have hA' := below_go hA hb2; clear hA; have hA := hA'; clear hA'; have hB' : Below w.heap.size w w2 := below_go (by repeat (first | (with_reducible exact Below.refl _ _) | (with_reducible assumption) | (with_reducible refine below_go ?_ (by with_reducible assumption)) | (with_reducible refine below_new ?_ _) | ((with_reducible refine below_put ?_ ?_ _); rotate_left; (dsimp only; omega)) | (with_reducible refine Below.drew ?_) | (with_reducible refine below_dn ?_ _))) hb2; have i0' : Has w2 (w.heap.size) 4 _ := Has.call (by repeat (first | (with_reducible assumption) | (with_reducible apply Has.set) | ((with_reducible apply Has.other); (case hne => (dsimp only; omega))) | (with_reducible apply Has.alloc) | (with_reducible apply Has.drew) | (with_reducible apply Has.drewN))) hb2; clear hB hb2; have hB := hB'; clear hB'; (try clear fi0); (try clear zi0); (try clear ci0); clear i0; have i0 := i0'; clear i0'; have ci0 := i0.1; have fi0 := i0.2.1; have zi0 := i0.2.2) | (go_at_call 57; (with_reducible refine (HTI.out _).mono ?_); rintro e w2 ⟨AT, cT, rfl, hcT, hST, hb2⟩; have hNT := nums_of_sl hST; clear hST; have own' := own_call own hb2; clear own; have own := own'; clear own'; have hA' := below_go hA hb2; clear hA; have hA := hA'; clear hA'; have hB' : Below w.heap.size w w2 := below_go (by repeat (first | (with_reducible exact Below.refl _ _) | (with_reducible assumption) | (with_reducible refine below_go ?_ (by with_reducible assumption)) | (with_reducible refine below_new ?_ _) | ((with_reducible refine below_put ?_ ?_ _); rotate_left; (dsimp only; omega)) | (with_reducible refine Below.drew ?_) | (with_reducible refine below_dn ?_ _))) hb2; have i0' : Has w2 (w.heap.size) 4 _ := Has.call (by repeat (first | (with_reducible assumption) | (with_reducible apply Has.set) | ((with_reducible apply Has.other); (case hne => (dsimp only; omega))) | (with_reducible apply Has.alloc) | (with_reducible apply Has.drew) | (with_reducible apply Has.drewN))) hb2; clear hB hb2; have hB := hB'; clear hB'; (try clear fi0); (try clear zi0); (try clear ci0); clear i0; have i0 := i0'; clear i0'; have ci0 := i0.1; have fi0 := i0.2.1; have zi0 := i0.2.2) | (go_at_call 71; (with_reducible refine (HAP.out _ AT cT hcT hNT).mono ?_); rintro e w2 ⟨u20, rfl, hAp, hg2, -⟩; have hb2 := below_none hg2; have own' := own_call own hb2; clear own; have own := own'; clear own'; have hA' := below_go hA hb2; clear hA; have hA := hA'; clear hA'; obtain ⟨A20, c20, rfl, hLS⟩ := ls_of_aps hAp (HEM.out _ hA); clear hAp hg2; have hB' : Below w.heap.size w w2 := below_go (by repeat (first | (with_reducible exact Below.refl _ _) | (with_reducible assumption) | (with_reducible refine below_go ?_ (by with_reducible assumption)) | (with_reducible refine below_new ?_ _) | ((with_reducible refine below_put ?_ ?_ _); rotate_left; (dsimp only; omega)) | (with_reducible refine Below.drew ?_) | (with_reducible refine below_dn ?_ _))) hb2; have i0' : Has w2 (w.heap.size) 4 _ := Has.call (by repeat (first | (with_reducible assumption) | (with_reducible apply Has.set) | ((with_reducible apply Has.other); (case hne => (dsimp only; omega))) | (with_reducible apply Has.alloc) | (with_reducible apply Has.drew) | (with_reducible apply Has.drewN))) hb2; clear hB hb2; have hB := hB'; clear hB'; (try clear fi0); (try clear zi0); (try clear ci0); clear i0; have i0 := i0'; clear i0'; have ci0 := i0.1; have fi0 := i0.2.1; have zi0 := i0.2.2))
  have hLS1 : LsAt w2 (Value.slice (some ⟨E3, 0, none⟩) 0 0).ownBlock A20 L := hLS
  have hnil : (Value.slice (some ⟨E3, 0, none⟩) 0 0) ≠ .slice none 0 0 := fun he => by cases he
  obtain ⟨nL, hnL⟩ : ∃ nL, nL = L.length := ⟨_, rfl⟩
  have HNL := hide hnL
  rw [← hnL] at hLn ⊢
  clear hnL hLS HEM hA HAP HTI hNT hcT hf
  go_wp2_with fail
  go_loopw [3, 22] (fun v3 v22 wr => ∃ (i : Nat) (u : Value), u = v3 ∧ i ≤ nL ∧ v22 = .int .i64 i ∧ u ≠ .slice none 0 0 ∧ wr.ownsRow E3 22 4 u (gL (slP r) L i 0).length (rsV (gL (slP r) L i 0)) ∧ LsAt wr u.ownBlock A20 L ∧ Below w.heap.size w wr ∧ Has wr w.heap.size 4 (fun o => .int .i64 (r o))) (fun _ v22 _ => nL - (intOf v22).toNat)
  case atStart => exact ⟨0, _, rfl, by omega, rfl, hnil, own, hLS1, hB, i0⟩
  case round =>
    clear hB i0 own hLS1 hnil
    rename_i v3 _
    obtain ⟨i, v3, rfl, hi, rfl, hnil, own, hLS, hB, i0⟩ := hrel
    have a0 : (0 : Int) ≤ i := by omega
    by_cases hiL : i < nL
    · have a1 : (i : Int) < nL := by omega
      have a1d : decide ((i : Int) < nL) = true := decide_eq_true a1
      obtain ⟨gl, vals, rfl, hqg, hHl, hjs⟩ := hLS (by rw [← HNL.out]; omega)
      obtain ⟨At, ct, het, hNt⟩ := hjs i (by rw [← HNL.out]; exact hiL)
      have q1 : wr.cell? ⟨gl, i, none⟩ = some (.slice At (L.getD i []).length ct) := (hHl.1 i (by rw [← HNL.out]; exact hiL)).trans (by rw [het])
      have hLS1 : LsAt wr v3.ownBlock (some ⟨gl, 0, none⟩) L := fun _ => ⟨gl, vals, rfl, hqg, hHl, hjs⟩
      have hmem := getD_mem (L := L) (i := i) (by rw [← HNL.out]; exact hiL)
      have hT4 := HSZ.out _ hmem
      have HTI := hide (HIN.out _ hmem)
      have HGE := hide (gL_end (slP r) (L := L) (i := i) (by rw [← HNL.out]; exact hiL))
      have HGY := hide (fun c h1 h2 => gL_yes (P := slP r) (L := L) (i := i) (c := c) h1 h2)
      have HGT := hide (fun c h1 h2 => gL_not (P := slP r) (L := L) (i := i) (c := c) h1 h2)
      have HGN := hide (fun c h1 => gL_no (P := slP r) (L := L) (i := i) (c := c) h1)
      have HGL := hide (fun c => gL_len (slP r) L i c)
      obtain ⟨T, hT⟩ : ∃ T, T = L.getD i [] := ⟨_, rfl⟩
      rw [← hT] at q1 hNt hT4 HTI HGY HGT HGN
      obtain ⟨n, hn⟩ : ∃ n, n = T.length := ⟨_, rfl⟩
      have HN := hide hn
      rw [← hn] at q1 hT4
      clear hLS hqg hHl hjs het hmem hT hn
      go_upto_region 8 with (fail)
      go_wp2_with fail
      go_loopw [3, 26] (fun v3 v26 wr => ∃ (k : Nat) (u : Value), u = v3 ∧ k ≤ 16 ∧ v26 = .int .i64 k ∧ u ≠ .slice none 0 0 ∧ wr.ownsRow E3 22 4 u (gL (slP r) L i k).length (rsV (gL (slP r) L i k)) ∧ LsAt wr u.ownBlock (some ⟨gl, 0, none⟩) L ∧ NumsAt wr u.ownBlock At T ∧ Below w.heap.size w wr ∧ Has wr w.heap.size 4 (fun o => .int .i64 (r o))) (fun _ v26 _ => 16 - (intOf v26).toNat)
      case atStart => exact ⟨0, _, rfl, by omega, rfl, hnil, own, hLS1, hNt, hB, i0⟩
      case round =>
        clear hB i0 own hLS1 hnil hNt
        rename_i v3' _
        obtain ⟨k, v4, rfl, hk, rfl, hnil, own, hLS, hNt, hB, i0⟩ := hrel
        by_cases h16 : k = 16
        · subst h16
          rw [HGE.out, ← gL_zero] at own
          go_wp2
          go_roundw
          case rel => exact ⟨i + 1, _, rfl, by omega, by go_num, hnil, own, hLS, hB, i0⟩
          case measure => simp [intOf]; omega
        · have hlt : k < 16 := by omega
          have hlti : (k : Int) < 16 := by omega
          have hdr : decide ((k : Int) < 16) = true := decide_eq_true hlti
          go_upto_region 12 with (fail)
          have hBo : Below wr.heap.size wr (wr.alloc (.cells #[.int .i64 0, .int .i64 0, .int .i64 0, .int .i64 0] 22)) := below_new (Below.refl _ _) _
          have j5 : Has (wr.alloc (.cells #[.int .i64 0, .int .i64 0, .int .i64 0, .int .i64 0] 22)) wr.heap.size 4 (spC k T 0) := (Has.new' (n := 4) rfl).congr fun o ho => by rcases p4 ho with rfl | rfl | rfl | rfl <;> rfl
          generalize World.alloc wr _ = w3 at *
          generalize wr = wo at *
          go_wp2_with fail
          go_loopw [8, 30] (fun v8 v30 wr => ∃ (j m : Nat), j ≤ 4 ∧ m = nB k j ∧ v30 = .int .i64 j ∧ v8 = .int .i64 m ∧ Below wo.heap.size wo wr ∧ Has wr wo.heap.size 4 (spC k T j)) (fun _ v30 _ => 4 - (intOf v30).toNat)
          case atStart => exact ⟨0, 0, by omega, rfl, rfl, rfl, hBo, j5⟩
          case round =>
            clear hBo j5
            obtain ⟨j, m, hj, hm, rfl, rfl, hBo, j5⟩ := hrel
            have hmj : m ≤ j := hm ▸ nB_le k j
            have HM := hide hm
            clear hm
            by_cases hj4 : j = 4
            · subst hj4
              have j5' := j5.congr (d := fun o => .int .i64 (spB k T o)) (fun o ho => by show Value.int .i64 (if o < 4 then spB k T o else 0) = _; rw [if_pos ho])
              clear j5
              by_cases hmn : m = n
              · have HNB := hide (show nB k 4 = T.length by rw [← HM.out, hmn, HN.out])
                subst hmn
                have HY := hide (HGY.out k HNB.out)
                have HT2 := hide (HGT.out k HNB.out)
                have hin := hide (fun i (_ : i < 4) => spB_in HTI.out k i)
                have hgl := HGL.out k
                obtain ⟨F, hF⟩ : ∃ F, F = spB k T := ⟨_, rfl⟩
                rw [← hF] at j5' hin HY HT2
                clear hF
                go_upto_region 21 with (first | (refine load_A4 rfl _ rfl _ _ rfl j5' (by omega) ?_) | (go_at_call 53; (with_reducible refine (slideRow_any F hin.out _).mono ?_); rintro e w2 ⟨rfl, hb2⟩; have hBo' := below_go hBo hb2; have j5x := j5'.call hb2; clear hBo j5'; have hBo := hBo'; have j5' := j5x; clear hBo' j5x))
                generalize hW : World.alloc (World.alloc w2 _) _ = w3
                have hBx : Below wo.heap.size wo w3 := by (rw [← hW]; exact below_new (below_new hBo _) _)
                have j5x := Has.at hW ((j5'.alloc _).alloc _)
                have j9 : Has w3 w2.heap.size 4 (fun o => .int .i64 ((SR.slid F).out o)) := Has.at hW (((Has.new' (n := 4) rfl).congr fun o ho => lit4' _ o ho).alloc _)
                have i0x := i0.call hBx
                have hE3 : E3 ≤ wo.heap.size := by
                  obtain ⟨gu, cu, hu⟩ := own_some own hnil
                  have h1 := own.lt gu (by rw [hu]; rfl)
                  omega
                have hE3' := Nat.le_trans hE3 hBx.size
                have own3 := own_call own hBx
                have hLS3 := hLS.call hBx
                have hNt3 := hNt.call hBx
                have hB3 := below_go hB hBx
                clear hW hBo j5' i0 own hLS hNt hB hBx
                generalize w2.heap.size = E9 at *
                have hE := eql_R (SR.slid F).out r
                have HSL : Hid (slP r F = eqR (SR.slid F).out r) := hide rfl
                cases he : eqR (SR.slid F).out r
                · rw [he] at hE
                  have HS2 := hide (HT2.out (by rw [HSL.out, he]))
                  clear he
                  go_wp2_with (first | (refine load_A4 rfl _ rfl _ _ rfl j9 (by omega) ?_) | (refine load_A4 rfl _ rfl _ _ rfl i0x (by omega) ?_))
                  go_roundw
                  case rel => exact ⟨k + 1, _, rfl, by omega, by go_num, hnil, by rw [HS2.out]; exact own3, hLS3, hNt3, hB3, i0x⟩
                  case measure => (simp [intOf]; omega)
                · rw [he] at hE
                  have HS2 := hide (HY.out (by rw [HSL.out, he]))
                  clear he
                  have hlen : (gL (slP r) L i k).length ≤ 512 := by have := HNL.out; omega
                  go_wp2_with (first | (refine load_A4 rfl _ rfl _ _ rfl j9 (by omega) ?_) | (refine load_A4 rfl _ rfl _ _ rfl i0x (by omega) ?_) | (refine load_A4 rfl _ rfl _ _ rfl j5x (by omega) ?_) | (at_builtin; refine wpList_append_own_at _ rfl _ _ 30 rfl E3 22 i1s (.agg #[.int .i64 0, .int .i64 0, .int .i64 0, .int .i64 0]) 4 32 Try.underlying30 hj0 hj1 hj2 hj3 rfl (by decide) _ (gL (slP r) L i k).length (rsV (gL (slP r) L i k)) rfl (own3.alloc _) ⟨w3.heap.size, 0, none⟩ 1 1 (c4 F) rfl rfl rw_cells (c4_ints F) (by unfold maxLen; omega) (by omega) (by simp; omega) ?_))
                  intro v' w5 hown' hgrow hiff hat
                  have hnil' : v' ≠ .slice none 0 0 := by first | exact hiff | exact fun hh => hnil (hiff.1 hh).1
                  have hat' : v'.ownBlock = v4.ownBlock ∨ ∀ g, v'.ownBlock = some g → (w3.alloc (.cells #[.int .i64 (F 0), .int .i64 (F 1), .int .i64 (F 2), .int .i64 (F 3)] 22)).heap.size ≤ g := by
                    rcases hat with h | h
                    · exact .inl h
                    · right
                      intro g hg
                      rw [h] at hg
                      have e := Option.some.inj hg
                      rw [← e]; simp
                  have hbn := below_new (Below.refl w3.heap.size w3) (.cells #[.int .i64 (F 0), .int .i64 (F 1), .int .i64 (F 2), .int .i64 (F 3)] 22)
                  have hLS5 := (hLS3.call hbn).next hgrow hat'
                  have hNt5 := (hNt3.call hbn).next hgrow hat'
                  have i05 := (i0x.alloc _).grown hgrow (own_at_ne own3 h0E)
                  have hB5 : Below w.heap.size w w5 := (below_new hB3 _).grown hgrow (by have := hB3.size; simp; omega) (fun q hq => Nat.le_trans (Nat.le_of_lt h0E) (own3.lt q hq).1)
                  have own5 : w5.ownsRow E3 22 4 v' (gL (slP r) L i (k + 1)).length (rsV (gL (slP r) L i (k + 1))) := by
                    rw [HS2.out, rsV_snoc, List.length_append]; exact hown'
                  clear hown' hgrow hiff hat hat' hbn own3 hLS3 hNt3 hB3 i0x j5x j9
                  go_wp2
                  go_roundw
                  case rel => exact ⟨k + 1, _, rfl, by omega, by go_num, hnil', own5, hLS5, hNt5, hB5, i05⟩
                  case measure => (simp [intOf]; omega)
              · have HS2 := hide (HGN.out k (fun h => hmn (HM.out.trans (h.trans HN.out.symm))))
                have hmni : ((m : Int) != (n : Int)) = true := bne_iff_ne.2 (by omega)
                go_wp2
                go_roundw
                case rel => exact ⟨k + 1, _, rfl, by omega, by go_num, hnil, by rw [HS2.out]; exact own_call own hBo, hLS.call hBo, hNt.call hBo, below_go hB hBo, i0.call hBo⟩
                case measure => simp [intOf]; omega
            · have hjl : j < 4 := by omega
              have b0 : (0 : Int) ≤ j := by omega
              have b1 : (j : Int) < 4 := by omega
              have b2 : (0 : Int) ≤ m := by omega
              have han := bit_any k j hlt hjl
              obtain ⟨x, hx⟩ : ∃ x, x = k / 2 ^ j := ⟨_, rfl⟩
              rw [← hx] at han
              have HX := hide hx
              clear hx
              rcases Nat.mod_two_eq_zero_or_one x with hb | hb
              · rw [hb] at han
                have HB := hide hb
                clear hb
                go_wp2
                go_roundw
                case rel => exact ⟨j + 1, m, by omega, by rw [nB, ← HX.out, HB.out, HM.out]; rfl, by go_num, rfl, hBo, j5.congr fun o _ => spC_zero k T j (by rw [← HX.out]; exact HB.out) o⟩
                case measure => simp [intOf]; omega
              · rw [hb] at han
                have HB := hide hb
                clear hb
                have hm1 : Hid (nB k (j + 1) = m + 1) := hide (by rw [nB, ← HX.out, HB.out, HM.out])
                by_cases hmn : m < n
                · have b3 : (m : Int) < n := by omega
                  obtain ⟨g, o, N, c, rfl, -, hle, hH, hc⟩ := hNt (by rw [← HN.out]; omega)
                  have hHr := hH.call hBo
                  obtain ⟨V, hv⟩ : ∃ V, V = T.getD m 0 := ⟨_, rfl⟩
                  have q2 : wr.cell? ⟨g, o + m, none⟩ = some (.int .i64 V) := by
                    rw [hHr.1 _ (by have := HN.out; omega)]
                    show some (Value.int .i64 (c (o + m))) = _
                    rw [hc m (by rw [← HN.out]; exact hmn), hv]
                  clear hH hc hHr hle
                  have HV := hide hv.symm
                  clear hv
                  go_wp2_with (refine store_int rfl _ _ rfl _ _ _ rfl rfl j5 (by omega) ?_; intro w3 ho3 hn3; have hB3 := below_only hBo ho3 (Nat.le_refl _))
                  go_roundw
                  case rel => exact ⟨j + 1, m + 1, by omega, hm1.out.symm, by go_num, by go_num, hB3, hn3.congr fun o _ => by
                    rw [← spC_set k T j (by rw [← HX.out]; exact HB.out) o, ← HM.out, HV.out]⟩
                  case measure => simp [intOf]; omega
                · have b3 : ¬ (m : Int) < n := by omega
                  go_wp2
                  go_roundw
                  case rel => exact ⟨j + 1, m + 1, by omega, hm1.out.symm, by go_num, by go_num, hBo, j5.congr fun o _ => spC_none k T j (by rw [← HX.out]; exact HB.out) (by rw [← HM.out, ← HN.out]; exact hmn) o⟩
                  case measure => simp [intOf]; omega
    · obtain rfl : i = nL := by omega
      rw [gL_zero, HNL.out, HFIN.out] at own
      obtain ⟨M, hM⟩ : ∃ M, M = prL (slP r) TL := ⟨_, rfl⟩
      have hML : M.length ≤ 65536 := by
        rw [hM, ← HFIN.out]
        exact Nat.le_trans (prP_len _ _ _) (by have := HNL.out; omega)
      have HC := hide (hM ▸ HCE.out)
      rw [← hM] at own
      obtain ⟨g, cap, rfl⟩ := own_some own hnil
      obtain ⟨hH, hge, hcap⟩ := own_has own
      have hH' := hH.congr (d := rsC M) (fun o ho => by have := rsC_get M ho; simp [List.getD, this])
      have HSO := hide (sortR_any M hML g cap wr hH')
      have HCP := hide (fun (l' : List (Nat → Int)) (hp : l'.Perm M) (w2 : World) (h : Has w2 g (M.length * 4) (rsC l')) => by
        have hl : l'.length = M.length := hp.length_eq
        have h1 := compactR_any l' (by omega) g cap (by omega) w2 (by rw [hl]; exact h)
        rw [hl] at h1
        exact h1)
      have hwg : w.heap.size ≤ g := by omega
      clear hH hH' hM own hLS hge
      go_wp2_with (first | (go_at_call 72; (with_reducible refine HSO.out.mono ?_); rintro e w2 ⟨rfl, l', hp, hs, h2, hg2⟩; have HC2 := hide (HCP.out l' hp w2 h2); have HF2 := hide (HC.out l' hp hs)) | (go_at_call 75; (with_reducible refine HC2.out.mono ?_); rintro e w3 ⟨rfl, h3, hO⟩))
      go_ret
      obtain ⟨f1, f2⟩ := HF2.out
      refine ⟨some ⟨g, 0, none⟩, cap, by rw [← f1]; rfl, fun _ => ⟨g, rfl, hwg, ?_⟩, ?_⟩
      · rw [f1] at h3
        exact h3.congr f2
      · exact below_only (hB.grown hg2 hB.size (fun q hq => by have := Option.some.inj hq; omega)) hO hwg

set_option maxHeartbeats 4000000 in
set_option maxRecDepth 100000 in
theorem rowsBefore_any (r : Nat → Int) (hr : ∀ i, i < 4 → 0 ≤ r i ∧ r i ≤ 17) (w : World) : Calls Try.prog 45 #[.agg #[.int .i64 (r 0), .int .i64 (r 1), .int .i64 (r 2), .int .i64 (r 3)]] w fun e w' => ∃ A c, e = .returned (.slice A (rbL r).length c) ∧ Sl w' w.heap.size A ((rbL r).length * 4) (rsC (rbL r)) ∧ Below w.heap.size w w' := by
  by_cases hfl : flP r
  · exact rowsBefore_flush r hr hfl w
  · have hf : flI r = false := by rw [flP_flI hr]; exact decide_eq_false hfl
    have e0 : rbL r = [] := by unfold rbL; rw [rfL_none hr hfl]; rfl
    rw [e0]
    clear e0 hfl hr
    go_enter Try.func45, Try.ntmps45
    go_upto_region 1 with (fail)
    generalize hW : w.alloc _ = w1
    have hB : Below w.heap.size w w1 := by (rw [← hW]; exact (by repeat (first | (with_reducible exact Below.refl _ _) | (with_reducible assumption) | (with_reducible refine below_go ?_ (by with_reducible assumption)) | (with_reducible refine below_new ?_ _) | ((with_reducible refine below_put ?_ ?_ _); rotate_left; (dsimp only; omega)) | (with_reducible refine Below.drew ?_) | (with_reducible refine below_dn ?_ _))))
    have hsz : Hid (w1.heap.size = w.heap.size + 1) := hide (by rw [← hW]; simp)
    have i0 : Has w1 (w.heap.size) 4 (fun o => .int .i64 (r o)) := by (rw [← hW]; repeat (first | (refine Has.new ?_ rfl; simp; done) | refine Has.alloc ?_ _))
    have ci0 := i0.1; have fi0 := i0.2.1; have zi0 := i0.2.2
    clear hW
    clear ci0 fi0 zi0 hsz
    go_upto_region 2 with (fail)
    generalize hW : World.alloc w1 _ = w3
    have hB' : Below w.heap.size w w3 := by (rw [← hW]; exact below_new hB _)
    have i0' := Has.at hW (i0.alloc _)
    clear hW hB i0
    have hB := hB'; have i0 := i0'
    clear hB' i0'
    generalize w1.heap.size = E3 at *
    go_wp2_with (first | (refine load_A4 rfl _ rfl _ _ rfl (by repeat (first | (with_reducible assumption) | (with_reducible apply Has.set) | ((with_reducible apply Has.other); (case hne => (dsimp only; omega))) | (with_reducible apply Has.alloc) | (with_reducible apply Has.drew) | (with_reducible apply Has.drewN))) (by omega) ?_) | (go_at_call 64; (with_reducible refine (Calls.bool_as (isFlush_any r _) hf).mono ?_); rintro e w2 ⟨rfl, hb2⟩; have hB' : Below w.heap.size w w2 := below_go (by repeat (first | (with_reducible exact Below.refl _ _) | (with_reducible assumption) | (with_reducible refine below_go ?_ (by with_reducible assumption)) | (with_reducible refine below_new ?_ _) | ((with_reducible refine below_put ?_ ?_ _); rotate_left; (dsimp only; omega)) | (with_reducible refine Below.drew ?_) | (with_reducible refine below_dn ?_ _))) hb2; have i0' : Has w2 (w.heap.size) 4 _ := Has.call (by repeat (first | (with_reducible assumption) | (with_reducible apply Has.set) | ((with_reducible apply Has.other); (case hne => (dsimp only; omega))) | (with_reducible apply Has.alloc) | (with_reducible apply Has.drew) | (with_reducible apply Has.drewN))) hb2; clear hB hb2; have hB := hB'; clear hB'; (try clear fi0); (try clear zi0); (try clear ci0); clear i0; have i0 := i0'; clear i0'; have ci0 := i0.1; have fi0 := i0.2.1; have zi0 := i0.2.2))
    go_ret
    exact ⟨_, _, rfl, sl_zero _ _ _ _, (by repeat (first | (with_reducible exact Below.refl _ _) | (with_reducible assumption) | (with_reducible refine below_go ?_ (by with_reducible assumption)) | (with_reducible refine below_new ?_ _) | ((with_reducible refine below_put ?_ ?_ _); rotate_left; (dsimp only; omega)) | (with_reducible refine Below.drew ?_) | (with_reducible refine below_dn ?_ _)))⟩

end Go.Proofs.Ytmbmknpjmkgjlaa
