/-
  Contract: the empty cells, as the program lists them (slices.DeleteFunc).
-/
import Derived.Test.YtjnmdhnckmmdnaaEmptyI
namespace Go.Proofs.Ytjnmdhnckmmdnaa
open Go.RowKit

theorem plF_even : ∀ (l : List Nat) (k : Nat), k < l.length → (plF l).getD (k * 2) 0 = l.getD k 0 / 4
  | p :: l, 0, _ => rfl
  | p :: l, k + 1, h => by
    have ih := plF_even l k (by simpa using h)
    rw [show (k + 1) * 2 = k * 2 + 1 + 1 by omega]
    simpa [plF] using ih
theorem plF_odd : ∀ (l : List Nat) (k : Nat), k < l.length → (plF l).getD (k * 2 + 1) 0 = l.getD k 0 % 4
  | p :: l, 0, _ => rfl
  | p :: l, k + 1, h => by
    have ih := plF_odd l k (by simpa using h)
    rw [show (k + 1) * 2 + 1 = k * 2 + 1 + 1 + 1 by omega]
    simpa [plF] using ih
theorem DfP.cells {b D : Nat → Int} {i : Nat} (h : DfP b D i 16) (o : Nat) (ho : o < i * 2) : Value.int .i64 (D o) = fI (plF (emL b 16)) o := by
  unfold fI
  have hl := h.1
  rcases (by omega : o = o / 2 * 2 ∨ o = o / 2 * 2 + 1) with e | e
  · have h2 := (h.2.1 (o / 2) (by omega)).1
    rw [e, plF_even _ _ (by omega), h2]
  · have h2 := (h.2.1 (o / 2) (by omega)).2
    rw [e, plF_odd _ _ (by omega), h2]
theorem DfP.all {b : Nat → Int} (h : ∀ j, j < 16 → b j = 0) : DfP b cellC 16 16 := by
  have e : emL b 16 = List.range 16 := emL_all h
  refine ⟨by rw [e]; simp, fun o ho => ?_, fun o _ => ⟨cellC_even o, cellC_odd o⟩⟩
  rw [e]
  simp [ho, cellC_even, cellC_odd]
theorem cellD_xy {wr : World} {g k : Nat} {D : Nat → Int} (hC : Has wr g 32 (fun p => .int .i64 (D p))) (hk : k < 16) (h : D (k * 2) = ((k / 4 : Nat) : Int) ∧ D (k * 2 + 1) = ((k % 4 : Nat) : Int)) :
    ∃ x y : Int, 0 ≤ x ∧ x < 4 ∧ 0 ≤ y ∧ y < 4 ∧ Hid (D (k * 2) = x ∧ D (k * 2 + 1) = y) ∧ Hid (x.toNat * 4 + y.toNat = k) ∧ wr.cell? ⟨g, k * 2, none⟩ = some (.int .i64 x) ∧ wr.cell? ⟨g, k * 2 + 1, none⟩ = some (.int .i64 y) := by
  refine ⟨((k / 4 : Nat) : Int), ((k % 4 : Nat) : Int), by omega, by omega, by omega, by omega, hide h, hide (by omega), ?_, ?_⟩
  · exact (hC.1 _ (by omega)).trans (by simp only [h.1])
  · exact (hC.1 _ (by omega)).trans (by simp only [h.2])
theorem has_two' {w : World} {T : TypeId} {x y : Value} : Has (w.alloc (.cells #[x, y] T)) w.heap.size 2 (fun o => if o = 0 then x else y) :=
  (Has.new' (n := 2) rfl).congr fun o ho => by rcases (by omega : o = 0 ∨ o = 1) with rfl | rfl <;> rfl

set_option maxHeartbeats 8000000 in
set_option maxRecDepth 100000 in
theorem deleteDel_any (b : Nat → Int) (B0 g β cap : Nat) (hcap : 16 ≤ cap) (w : World) (hβ : β ≤ w.heap.size) (hgβ : β ≤ g) (hne : B0 ≠ g) (hH : Has w B0 16 (fun o => .int .i64 (b o))) (hC : Has w g 32 (fun p => .int .i64 (cellC p))) :
    Calls Try.prog 143 #[.slice (some ⟨g, 0, none⟩) 16 cap, .func (.func 144) #[] #[.pointer (some ⟨B0, 0, none⟩)]] w fun e w' => e = .returned (.slice (some ⟨g, 0, none⟩) (emL b 16).length cap) ∧ Below β w w' ∧ Sl w' β (some ⟨g, 0, none⟩) ((emL b 16).length * 2) (fI (plF (emL b 16))) := by
  have HI := hide (indexDel_any b B0 g 16 cap rfl w hH hC)
  have HH := hide hH
  have HC := hide hC
  clear hH hC
  go_enter Try.func143, Try.ntmps143
  go_wp2_with fail
  refine HI.out.mono ?_
  rintro e w1 ⟨v, rfl, hv, hb1⟩
  have hB : Below β w w1 := hb1.mono hβ
  have i9 := HH.out.call hb1
  have iG := HC.out.call hb1
  have hs1 := hb1.size
  clear hb1
  rcases hv with ⟨rfl, hall⟩ | ⟨k, hk, rfl, hz, hall⟩
  · have hd := DfP.all hall
    have HD := hide hd
    clear hd hall
    go_wp2
    go_ret
    have e := HD.out.1
    refine ⟨by rw [← e]; rfl, hB, fun _ => ⟨g, rfl, hgβ, ?_⟩⟩
    rw [← e]
    exact iG.congr fun o ho => HD.out.cells o ho
  · have hd := DfP.start hall hz
    have HD := hide hd
    clear hd hall hz
    have hk1 : ((k : Int) == -1) = false := beq_eq_false_iff_ne.2 (by omega)
    go_wp2_with fail
    clear hk1
    go_loopw [5, 6] (fun v5 v6 wr => ∃ (i j : Nat) (D : Nat → Int), v5 = .int .i64 i ∧ v6 = .int .i64 j ∧ i < j ∧ j ≤ 16 ∧ Hid (DfP b D i j) ∧ Below β w wr ∧ Has wr B0 16 (fun o => .int .i64 (b o)) ∧ Has wr g 32 (fun o => .int .i64 (D o))) (fun _ j _ => 16 - (intOf j).toNat)
    case atStart => exact ⟨k, k + 1, cellC, rfl, by go_num, by omega, by omega, HD, hB, i9, iG⟩
    case round =>
      clear hB i9 iG hs1
      obtain ⟨i, j, D, rfl, rfl, hij, hjn, HD, hB, i9, iG⟩ := hrel
      have hsw := hB.size
      by_cases hlt : j < 16
      · obtain ⟨x, y, hx0, hx3, hy0, hy3, hDxy, hxy, q1, q2⟩ := cellD_xy iG hlt (HD.out.2.2 j (Nat.le_refl _))
        have hg7 := iG.2.2
        have hB07 := i9.2.2
        go_upto_region 8 with (fail)
        generalize hW : World.alloc wr _ = w5
        have hB5 : Below β w w5 := hW ▸ hB.alloc (by omega) _
        have j9 := Has.at hW (i9.alloc _)
        have jG := Has.at hW (iG.alloc _)
        have j7 := Has.at hW has_two'
        clear hW hB i9 iG q1 q2
        generalize hS : wr.heap.size = B7 at *
        clear hS
        have hs5 := hB5.size
        have e0 : w5.cell? ⟨B7, 0, none⟩ = some (.int .i64 x) := two_x j7
        have e1 : w5.cell? ⟨B7, 1, none⟩ = some (.int .i64 y) := two_y j7
        by_cases hz : b j = 0
        · have hz' : (b j != 0) = false := by simpa using hz
          have HZ := hide hz
          clear hz
          go_wp2_with (first | ((go_at_call 144); (refine (del_any b B0 j hlt x y hx0 hx3 hy0 hy3 hxy _ j9).mono ?_); rintro e w2 ⟨rfl, hb2⟩; have hB2 := hB5.trans (hb2.mono (by omega)); have k9 := j9.call hb2; have kG := jG.call hb2; have f0 : w2.cell? ⟨B7, 0, none⟩ = some (.int .i64 x) := two_x (j7.call hb2); have f1 : w2.cell? ⟨B7, 1, none⟩ = some (.int .i64 y) := two_y (j7.call hb2); clear hb2 e0 e1 hB5 j9 jG) | (refine store_A2 rfl _ _ rfl _ _ _ _ rfl rfl rfl kG (by omega) ?_; intro w3 ho3 hn3))
          go_roundw
          case rel => exact ⟨i + 1, j + 1, _, by go_num, by go_num, by omega, by omega, hide (HD.out.keep HZ.out), below_only' hB2 ho3 hgβ, k9.only ho3 hne, hn3.congr fun o _ => by
            simp only [hDxy.out.1, hDxy.out.2]
            by_cases e1 : o = i * 2
            · simp [e1]
            · by_cases e2 : o = i * 2 + 1
              · simp [e2]
              · simp [e1, e2]⟩
          case measure => simp [intOf]; omega
        · have hz' : (b j != 0) = true := by simpa using hz
          have HZ := hide hz
          clear hz
          go_wp2_with ((go_at_call 144); (refine (del_any b B0 j hlt x y hx0 hx3 hy0 hy3 hxy _ j9).mono ?_); rintro e w2 ⟨rfl, hb2⟩; have hB2 := hB5.trans (hb2.mono (by omega)); have k9 := j9.call hb2; have kG := jG.call hb2; clear hb2 e0 e1 hB5 j9 jG)
          go_roundw
          case rel => exact ⟨i, j + 1, D, rfl, by go_num, by omega, by omega, hide (HD.out.drop HZ.out), hB2, k9, kG⟩
          case measure => simp [intOf]; omega
      · obtain rfl : j = 16 := by omega
        have hcap' : i < cap := by omega
        have e := HD.out.1
        have HE := hide e
        clear e
        go_wp2_with (refine clear_A2 rfl _ rfl _ _ _ _ rfl iG (by omega) (by omega) ?_; intro w3 ho3 hn3)
        go_ret
        refine ⟨by rw [← HE.out]; rfl, below_only' hB ho3 hgβ, ?_⟩
        rw [← HE.out]
        intro _
        refine ⟨g, rfl, hgβ, fun o ho => ?_, hn3.2.1, by have := hn3.2.2; exact this⟩
        rw [hn3.1 o (by omega)]
        simp only []
        rw [if_neg (by omega), HD.out.cells o ho]

end Go.Proofs.Ytjnmdhnckmmdnaa
