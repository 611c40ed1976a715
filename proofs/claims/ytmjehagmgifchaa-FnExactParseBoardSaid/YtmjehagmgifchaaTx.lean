/-
  Contract: the text of a board, the program's.
-/
import Derived.Test.YtmjehagmgifchaaTxWords
import Derived.Test.YtmjehagmgifchaaBoardMath
import Derived.Test.YtmjehagmgifchaaShelf
import Derived.Test.YtmjehagmgifchaaOwn
import Derived.Laws.IdiomStrings
namespace Go.Proofs.Ytmjehagmgifchaa
open Go.RowKit

theorem own_grown {w w2 : World} {base e size n : Nat} {v : Value} {xs : List Value} {row : Option Nat} (h : w.ownsRow base e size v n xs) (hg : w.grownBy w2 row) (hne : ∀ k, v.ownBlock = some k → row ≠ some k) : w2.ownsRow base e size v n xs := by
  refine ⟨h.1, ?_⟩
  rcases h.2 with h2 | ⟨g, cap, cur, e1, hgb, hh, r⟩
  · exact .inl h2
  · refine .inr ⟨g, cap, cur, e1, hgb, (hg.block g (Array.getElem?_eq_some_iff.1 hh).1 ?_).trans hh, r⟩
    exact fun hk => hne g (by rw [e1]; rfl) hk.symm
theorem own_fresh {wr w3 : World} {o : Obj} {base e size n : Nat} {v : Value} {xs : List Value} (h : wr.ownsRow base e size v n xs) (ho : Only wr.heap.size (wr.alloc o) w3) : w3.ownsRow base e size v n xs := by
  have h1 := h.alloc o
  refine ⟨h.1, ?_⟩
  rcases h.2 with h2 | ⟨g, cap, cur, e1, hgb, hh, r⟩
  · exact .inl h2
  · have hlt := (Array.getElem?_eq_some_iff.1 hh).1
    refine .inr ⟨g, cap, cur, e1, hgb, (ho.block g (by omega)).trans ?_, r⟩
    rw [show (wr.alloc o).heap = wr.heap.push o from rfl, Array.getElem?_push]
    rw [if_neg (by omega)]; exact hh
theorem index4r (b : Nat → Int) (r k : Nat) (hk : k < 4) (w : World) : (Instr.index 22 (.agg #[.int .i64 (b (4 * r)), .int .i64 (b (4 * r + 1)), .int .i64 (b (4 * r + 2)), .int .i64 (b (4 * r + 3))]) (.int .i64 (k : Int))).run Try.prog w = .ok (.int .i64 (b (4 * r + k))) w := by
  rcases (by omega : k = 0 ∨ k = 1 ∨ k = 2 ∨ k = 3) with rfl | rfl | rfl | rfl <;> kernel_rfl
theorem index44 (b : Nat → Int) (r : Nat) (hr : r < 4) (w : World) : (Instr.index 23 (.agg #[.int .i64 (b 0), .int .i64 (b 1), .int .i64 (b 2), .int .i64 (b 3), .int .i64 (b 4), .int .i64 (b 5), .int .i64 (b 6), .int .i64 (b 7), .int .i64 (b 8), .int .i64 (b 9), .int .i64 (b 10), .int .i64 (b 11), .int .i64 (b 12), .int .i64 (b 13), .int .i64 (b 14), .int .i64 (b 15)]) (.int .i64 (r : Int))).run Try.prog w = .ok (.agg #[.int .i64 (b (4 * r)), .int .i64 (b (4 * r + 1)), .int .i64 (b (4 * r + 2)), .int .i64 (b (4 * r + 3))]) w := by
  rcases (by omega : r = 0 ∨ r = 1 ∨ r = 2 ∨ r = 3) with rfl | rfl | rfl | rfl <;> kernel_rfl
theorem indexT (t : Nat) (ht : t < 18) (w : World) : (Instr.index 9 (.string ⟨#[46, 97, 98, 99, 100, 101, 102, 103, 104, 105, 106, 107, 108, 109, 110, 111, 112, 113]⟩) (.int .i64 (t : Int))).run Try.prog w = .ok (.int .u8 ((ltr t).toNat : Int)) w := by
  have : t = 0 ∨ t = 1 ∨ t = 2 ∨ t = 3 ∨ t = 4 ∨ t = 5 ∨ t = 6 ∨ t = 7 ∨ t = 8 ∨ t = 9 ∨ t = 10 ∨ t = 11 ∨ t = 12 ∨ t = 13 ∨ t = 14 ∨ t = 15 ∨ t = 16 ∨ t = 17 := by omega
  rcases this with rfl | rfl | rfl | rfl | rfl | rfl | rfl | rfl | rfl | rfl | rfl | rfl | rfl | rfl | rfl | rfl | rfl | rfl <;> (show _ = _; kernel_rfl)
theorem info_u8 : (Try.prog.info? 5).map (fun i => (i.zero, i.size, i.bytes)) = some (some (.int .u8 0), 1, 1) := by kernel_rfl
theorem info_str : (Try.prog.info? 9).map (fun i => (i.zero, i.size, i.bytes)) = some (some (.string ⟨#[]⟩), 1, 16) := by kernel_rfl
def rwV (b : Nat → Int) (r c : Nat) : List Value := (rwT b r c).map fun x => .int .u8 (x.toNat : Int)
theorem rwV_succ (b : Nat → Int) (r c : Nat) : rwV b r (c + 1) = rwV b r c ++ [.int .u8 ((ltr (b (4 * r + c)).toNat).toNat : Int)] := by simp [rwV, rwT_succ]
def rowsV (b : Nat → Int) (r : Nat) : List Value := (List.range r).map fun k => .string (mkS (rwT b k 4))
theorem rowsV_succ (b : Nat → Int) (r : Nat) : rowsV b (r + 1) = rowsV b r ++ [.string (mkS (rwT b r 4))] := by simp [rowsV, List.range_succ]
theorem join_tx (b : Nat → Int) : Lib.join (((List.range 4).map fun k => mkS (rwT b k 4)).map (·.data.toList)) [47] = txL b := by
  simp [Lib.join, txL, preT, mkS, List.range_succ, List.intercalate]
theorem join4 (b : Nat → Int) (g cap : Nat) (w : World) (hcap : 4 ≤ cap) (hH : Has w g (4 * 1) (fun o => (rowsV b 4).getD o undef)) :
    Calls Try.prog 146 #[.slice (some ⟨g, 0, none⟩) 4 cap, .string ⟨#[47]⟩] w fun e w' => e = .returned (.string (mkS (txL b))) ∧ Below w.heap.size w w' := by
  have h := Try.strings_Join g 0 cap ((List.range 4).map fun k => mkS (rwT b k 4)) ⟨#[47]⟩ w (by
    intro j x hx
    have hj : j < 4 := by have := (List.getElem?_eq_some_iff.1 hx).1; simpa using this
    rw [hH.1 (0 + j) (by omega)]
    simp [hj] at hx
    subst hx
    simp [rowsV, hj]) hH.2.2 (by simp) (by simpa using hcap) (by rw [show (⟨#[47]⟩ : ByteArray).data.toList = [47] from rfl, join_tx, txL_len]; omega)
  rw [show (⟨#[47]⟩ : ByteArray).data.toList = [47] from rfl, join_tx] at h
  exact h
/-- 'string(own)' of the bytes that the call owns. -/
theorem own_string {w : World} {base cap : Nat} {A : Option Addr} {l : List UInt8} {n : Nat} (h : w.ownsRow base 5 1 (.slice A n cap) n (l.map fun x => .int .u8 (x.toNat : Int))) (h0 : 0 < n) (hn : l.length = n) :
    (convert 47 9 (.slice A n cap)).run Try.prog w = .ok (.string (mkS l)) w := by
  subst hn
  rcases h.2 with ⟨h2, _⟩ | ⟨g, cap', cur, e1, _, _, _⟩
  · obtain ⟨_, h3, _⟩ := Value.slice.inj h2; omega
  · obtain ⟨e1, _, e3⟩ := Value.slice.inj e1
    subst e1
    refine run_convert_bytes_back w _ _ 5 _ cap l Try.underlying47 Try.underlying5 Try.underlying9 ?_
    intro j hj
    rw [Addr.add_lit]
    have := h.cellAt j (by simpa using hj)
    simpa [List.getElem?_eq_getElem hj] using this

set_option maxHeartbeats 8000000 in
set_option maxRecDepth 100000 in
theorem text_any (b : Nat → Int) (hb : In17 b 16) (w : World) : Calls Try.prog 85 #[.agg #[.int .i64 (b 0), .int .i64 (b 1), .int .i64 (b 2), .int .i64 (b 3), .int .i64 (b 4), .int .i64 (b 5), .int .i64 (b 6), .int .i64 (b 7), .int .i64 (b 8), .int .i64 (b 9), .int .i64 (b 10), .int .i64 (b 11), .int .i64 (b 12), .int .i64 (b 13), .int .i64 (b 14), .int .i64 (b 15)]] w fun e w' => e = .returned (.string (mkS (txL b))) ∧ Below w.heap.size w w' := by
  obtain ⟨i0s, hi0, hz0, hz1, hz2⟩ := info_parts info_str
  obtain ⟨i1s, hj0, hj1, hj2, hj3⟩ := info_parts info_u8
  have HB := hide hb
  clear hb
  go_enter Try.func85, Try.ntmps85
  go_upto_region 1 with (fail)
  generalize hW : w.alloc _ = w1
  have hB : Below w.heap.size w w1 := by (rw [← hW]; exact (by repeat (first | (with_reducible exact Below.refl _ _) | (with_reducible assumption) | (with_reducible refine below_go ?_ (by with_reducible assumption)) | (with_reducible refine below_new ?_ _) | ((with_reducible refine below_put ?_ ?_ _); rotate_left; (dsimp only; omega)) | (with_reducible refine Below.drew ?_) | (with_reducible refine below_dn ?_ _))))
  have hsz : Hid (w1.heap.size = w.heap.size + 1) := hide (by rw [← hW]; simp)
  have i0 : Has w1 (w.heap.size) 16 (fun o => .int .i64 (b o)) := by (rw [← hW]; repeat (first | (refine Has.new ?_ rfl; simp; done) | refine Has.alloc ?_ _))
  have ci0 := i0.1; have fi0 := i0.2.1; have zi0 := i0.2.2
  clear hW
  clear ci0 fi0
  have hsz1 := hsz.out
  go_upto_region 2 with (fail)
  generalize hW : World.alloc _ _ = w2
  have hown : w2.ownsRow w.heap.size 9 1 (.slice (some ⟨w.heap.size + 1, 0, none⟩) 0 0) 0 (rowsV b 0) := by
    have := own_made0 (base := w.heap.size) (size := 1) hW (by omega)
    rw [hsz1] at this
    exact this
  have hB' : Below w.heap.size w w2 := by (rw [← hW]; exact below_new hB _)
  have i0' := Has.at hW (Has.alloc i0 _)
  clear hW hB i0 zi0 hsz hsz1
  have hB := hB'; have i0 := i0'
  clear hB' i0'
  go_upto_region 3 with (refine load_A44 rfl _ rfl _ _ rfl i0 (by omega) ?_)
  clear i0
  go_loopw [3, 12] (fun v i wr => ∃ (v' : Value) (r : Nat), v' = v ∧ r ≤ 4 ∧ i = .int .i64 r ∧ wr.ownsRow w.heap.size 9 1 v r (rowsV b r) ∧ Below w.heap.size w wr) (fun _ i _ => 4 - (intOf i).toNat)
  case atStart => exact ⟨_, 0, rfl, by omega, rfl, hown, hB⟩
  case round =>
    clear hB hown
    obtain ⟨v3, r, rfl, hr, rfl, hown, hB⟩ := hrel
    by_cases h4 : r = 4
    · subst h4
      obtain ⟨A, cap, rfl, hcap, hS⟩ := own_sl hown
      obtain ⟨g, rfl, hg, hH⟩ := hS (by omega)
      have hH := hide hH
      clear hown
      go_wp2_with (go_at_call 146; (with_reducible refine (join4 b g cap _ hcap hH.out).mono ?_); rintro e w2 ⟨rfl, hb2⟩)
      have hB2 := below_go hB hb2
      clear hB hb2
      go_wp2
      go_ret
      exact ⟨rfl, hB2⟩
    · have hlt : r < 4 := by omega
      have a0 : (0 : Int) ≤ r := by omega
      have a1 : (r : Int) < 4 := by omega
      have hx := index44 b r hlt
      go_upto_region 5 with (refine store_A4 rfl _ _ rfl _ _ _ _ _ _ rfl rfl rfl (Has.new' (n := 4) rfl) (by omega) ?_; intro w3 ho3 hn3)
      clear hx
      have hown3 := own_fresh hown ho3
      have hlt3 : ∀ k, v3.ownBlock = some k → k < wr.heap.size := fun k hk => (hown.lt k hk).2
      have hB3 : Below w.heap.size w w3 := below_only (below_new hB _) ho3 hB.size
      have hn3 : Has w3 wr.heap.size 4 (fun o => .int .i64 (b (4 * r + o))) := hn3.congr (fun o ho => by rcases (by omega : o = 0 ∨ o = 1 ∨ o = 2 ∨ o = 3) with rfl | rfl | rfl | rfl <;> rfl)
      have hs3 : w3.heap.size = wr.heap.size + 1 := by rw [ho3.size]; simp
      have hwr := hB.size
      have HWR := hide hwr
      clear hown hB ho3
      go_upto_region 6 with (fail)
      generalize hW : World.alloc _ _ = w4
      have hO : w4.ownsRow (wr.heap.size + 1) 5 1 (.slice (some ⟨wr.heap.size + 1, 0, none⟩) 0 0) 0 (rwV b r 0) := by
        have := own_made0 (base := wr.heap.size + 1) (size := 1) hW (by omega)
        rw [hs3] at this
        exact this
      have hB4 : Below w.heap.size w w4 := by (rw [← hW]; exact below_new hB3 _)
      have hown4 := own_at hW hown3
      have j0 := Has.at hW (Has.alloc hn3 _)
      have hs4 : wr.heap.size + 2 ≤ w4.heap.size := by rw [← hW]; simp; omega
      clear hW hown3 hB3 hn3 hs3
      generalize hBW : wr.heap.size = BW at *
      clear hBW
      go_upto_region 7 with (refine load_A4 rfl _ rfl _ _ rfl j0 (by omega) ?_)
      clear j0
      have hvB : ∀ k, v3.ownBlock = some k → k < BW := fun k hk => hlt3 k hk
      have hvB := hide hvB
      clear hlt3
      go_loopw [6, 17] (fun u i wz => ∃ (u' : Value) (c : Nat), u' = u ∧ c ≤ 4 ∧ i = .int .i64 c ∧ wz.ownsRow (BW + 1) 5 1 u c (rwV b r c) ∧ wz.ownsRow w.heap.size 9 1 v3 r (rowsV b r) ∧ Below w.heap.size w wz ∧ BW + 2 ≤ wz.heap.size) (fun _ i _ => 4 - (intOf i).toNat)
      case atStart => exact ⟨_, 0, rfl, by omega, rfl, hO, hown4, hB4, hs4⟩
      case round =>
        clear hO hown4 hB4 hs4
        obtain ⟨v6, c, rfl, hc, rfl, hO, hown, hB, hs⟩ := hrel
        by_cases h5 : c = 4
        · subst h5
          obtain ⟨A, cap, rfl, hcap, hS⟩ := own_sl hO
          have hconv := own_string hO (by omega) (rwT_len b r 4)
          have hrs := hide (rowsV_succ b r)
          clear hO hS
          go_wp2_with (at_builtin; refine wpList_append_own _ rfl (.tmp 26) (.tmp 29) 139 rfl w.heap.size 9 i0s (.string ⟨#[]⟩) 1 16 Try.underlying139 hi0 hz0 hz1 hz2 rfl (by decide) _ r (rowsV b r) rfl (hown.alloc _) ⟨wr.heap.size, 0, none⟩ 1 1 [.string (mkS (rwT b r 4))] rfl rfl ?d1 ?d2 ?d3 ?d4 ?d5 ?_)
          case d1 => exact one_cell
          case d2 => intro u hu; simp at hu; subst hu; rfl
          case d3 => unfold maxLen; omega
          case d4 => omega
          case d5 => have := hB.size; simp; omega
          intro v' w5 hown' hgrow _
          have hB5 : Below w.heap.size w w5 := (below_new hB _).grown hgrow (by have := hB.size; simp; omega) (fun q hq => (hown.lt q hq).1)
          clear hown hB hgrow hs hconv
          go_wp2
          go_roundw
          case rel => exact ⟨_, r + 1, rfl, by omega, by go_num, by rw [hrs.out]; exact hown', hB5⟩
          case measure => simp [intOf]; omega
        · have hltc : c < 4 := by omega
          have b0 : (0 : Int) ≤ c := by omega
          have b1 : (c : Int) < 4 := by omega
          obtain ⟨t0, t1⟩ := HB.out (4 * r + c) (by omega)
          obtain ⟨tn, ht⟩ : ∃ tn : Nat, b (4 * r + c) = (tn : Int) := ⟨(b (4 * r + c)).toNat, by omega⟩
          have ht17 : tn < 18 := by omega
          have d0 : (0 : Int) ≤ tn := by omega
          have d1 : (tn : Int) ≤ 17 := by omega
          have hy := index4r b r c hltc
          rw [ht] at hy
          have hz := indexT tn ht17
          have hrs := hide (rwV_succ b r c)
          have HT := hide ht
          clear ht t0 t1
          go_wp2_with (at_builtin; refine wpList_append_own _ rfl (.tmp 20) (.tmp 23) 47 rfl (BW + 1) 5 i1s (.int .u8 0) 1 1 Try.underlying47 hj0 hj1 hj2 hj3 rfl (by decide) _ c (rwV b r c) rfl (hO.alloc _) ⟨wr.heap.size, 0, none⟩ 1 1 [.int .u8 ((ltr tn).toNat : Int)] rfl rfl ?c1 ?c2 ?c3 ?c4 ?c5 ?_)
          case c1 => exact one_cell
          case c2 => intro u hu; simp at hu; subst hu; rfl
          case c3 => unfold maxLen; omega
          case c4 => omega
          case c5 => simp; omega
          intro v' w5 hO' hgrow _
          have hown5 := own_grown (hown.alloc _) hgrow (fun k hk hr' => by
            have h1 := hvB.out k hk
            obtain ⟨h2, h3⟩ := hO.lt k hr'
            omega)
          have hB5 : Below w.heap.size w w5 := (below_new hB _).grown hgrow (by have := hB.size; simp; omega) (fun q hq => by have := (hO.lt q hq).1; have := HWR.out; omega)
          have hs5 : BW + 2 ≤ w5.heap.size := by have := hgrow.size; simp at this; omega
          clear hown hB hO hgrow hs
          go_wp2
          go_roundw
          case rel => exact ⟨_, c + 1, rfl, by omega, by go_num, by rw [hrs.out, HT.out]; exact hO', hown5, hB5, hs5⟩
          case measure => simp [intOf]; omega

end Go.Proofs.Ytmjehagmgifchaa
