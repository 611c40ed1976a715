/-
  Contract: the tiles of a row (slices.Clone, slices.DeleteFunc).
-/
import Derived.Test.YtegdnfmhhigjfaaQBase
import Derived.Test.YtegdnfmhhigjfaaQBoard1
import Derived.Lib.SliceRun
import Derived.Deep.WholeRow
import Derived.Deep.RegionHeld3
namespace Go.Proofs.Ytegdnfmhhigjfaa
open Go.RowKit

theorem zeroCells_int (n : Nat) : (Builtin.zeroCells #[Value.int .i64 0] n).toList = List.replicate n (Value.int .i64 0) := by
  simp only [Builtin.zeroCells]
  apply List.ext_getElem
  · simp
  · intro i h1 h2
    simp [Nat.mod_one]

/-- clear of a slice of whole numbers out of a block that is known. -/
theorem clear_int {ops : Array Oper} {rest : List Oper} {op : Oper} {a : Act} {w : World} {Q : Exit → Act → World → Prop} (hgd : op.guard = none) (x : Operand)
    (ho : op.op = .call { callee := .builtin .clear, args := #[x], argTypes := #[41] })
    (b o m cp : Nat) (hx : a.eval x = .slice (some ⟨b, o, none⟩) m cp) {n : Nat} {c : Nat → Value} (hH : Has w b n c) (hm : 0 < m) (hle : o + m ≤ n)
    (h : ∀ w2, Only b w w2 → Has w2 b n (fun j => if o ≤ j ∧ j < o + m then .int .i64 0 else c j) → wpList Try.prog ops Q rest (a.put op.dst (.tuple #[])) w2) : wpList Try.prog ops Q (op :: rest) a w := by
  refine wpList_plain hgd fun K hK => ?_
  have hst := run_storeCells_cells (P := Try.prog) b o (List.replicate m (Value.int .i64 0)) 0 w (fun j hj => by simp at hj; rw [hH.1 _ (by omega)]; rfl) (fun j _ => hH.2.1 _) (fun u hu => by obtain ⟨_, rfl⟩ := List.mem_replicate.1 hu; rfl)
  have hz : ∀ w, (zeroValue 3).run Try.prog w = .ok (.int .i64 0) w := fun w => by kernel_rfl
  have hr : (Builtin.clear_ #[41] op.type #[.slice (some ⟨b, o, none⟩) m cp]).run Try.prog w = .ok (.tuple #[]) (w.setCells b o (List.replicate m (Value.int .i64 0))) := by
    obtain ⟨k, rfl⟩ : ∃ k, m = k + 1 := ⟨m - 1, by omega⟩
    simp only [Nat.add_zero] at hst
    simp [Builtin.clear_, run_underlying Try.underlying41, hz, Value.cells, zeroCells_int, hst]
  unfold Oper.wp execOp
  simp only [ho, resolve, invoke, builtin, Sem.run_bind, Sem.run_pure, Result.andThen_ok, List.map_toArray, List.map_cons, List.map_nil, hx, hr]
  refine hK _ _ (h _ (only_setCells _ _ _ _) ?_)
  refine (hH.sets (List.replicate m (Value.int .i64 0)) (by simpa using hle)).congr fun j _ => ?_
  simp only [List.length_replicate]
  by_cases hj : o ≤ j ∧ j < o + m
  · rw [if_pos hj, if_pos hj]
    have : j - o < m := by omega
    simp [this]
  · rw [if_neg hj, if_neg hj]

theorem all_succ {p : Nat → Prop} {k : Nat} (h : ∀ j, j < k → p j) (hk : p k) : ∀ j, j < k + 1 → p j := by
  intro j hj
  rcases Nat.lt_or_ge j k with h1 | h1
  · exact h j h1
  · obtain rfl : j = k := by omega
    exact hk

/-- The numbers among the first j that are not 0. -/
def kept (c : Nat → Int) (j : Nat) : List Int := ((List.range j).map c).filter fun t => !decide (t = 0)
theorem kept_succ (c : Nat → Int) (j : Nat) : kept c (j + 1) = if c j = 0 then kept c j else kept c j ++ [c j] := by
  unfold kept
  rw [List.range_succ, List.map_append, List.filter_append]
  by_cases h : c j = 0 <;> simp [h]
theorem kept_len (c : Nat → Int) (j : Nat) : (kept c j).length ≤ j := by
  have := List.length_filter_le (fun t => !decide (t = 0)) ((List.range j).map c)
  simpa [kept] using this
theorem kept_all {c : Nat → Int} {k : Nat} (h : ∀ j, j < k → c j ≠ 0) : kept c k = (List.range k).map c := by
  unfold kept
  rw [List.filter_eq_self]
  intro t ht
  obtain ⟨j, hj, rfl⟩ := List.mem_map.1 ht
  simpa using h j (List.mem_range.1 hj)
theorem kept_zero {c : Nat → Int} {k : Nat} (h : ∀ j, j < k → c j ≠ 0) (hz : c k = 0) : kept c (k + 1) = (List.range k).map c := by
  rw [kept_succ, if_pos hz, kept_all h]

def Fz (c : Nat → Int) (n : Nat) (i : Int) : Prop := (i = -1 ∧ ∀ j, j < n → c j ≠ 0) ∨ ∃ k : Nat, k < n ∧ i = k ∧ c k = 0 ∧ ∀ j, j < k → c j ≠ 0

theorem tile0_any (n : Int) (w : World) : Calls Try.prog 145 #[.int .i64 n] w fun e w' => e = .returned (.bool (n == 0)) ∧ w = w' := by
  go_enter Try.func145, Try.ntmps145
  go_wp2
  go_ret
  exact ⟨rfl, rfl⟩

set_option maxHeartbeats 2000000 in
theorem indexFunc0_any (g n cap N : Nat) (c : Nat → Int) (w : World) (hH : Has w g N (fun i => .int .i64 (c i))) (hle : n ≤ N) (hn : n ≤ 65536) :
    Calls Try.prog 135 #[.slice (some ⟨g, 0, none⟩) n cap, .func (.func 145) #[] #[]] w fun e w' => ∃ i, e = .returned (.int .i64 i) ∧ Fz c n i ∧ w = w' := by
  have hc := hH.1; have hf := hH.2.1
  have HH := hide hH
  clear hH
  go_enter Try.func135, Try.ntmps135
  go_wp2
  go_loop [5, 8] (fun _ i => ∃ k : Nat, k ≤ n ∧ i = .int .i64 k ∧ Hid (∀ j, j < k → c j ≠ 0)) (fun _ i => n - (intOf i).toNat)
  case atStart => exact ⟨0, Nat.zero_le _, rfl, hide (fun j hj => absurd hj (Nat.not_lt_zero _))⟩
  case round =>
    obtain ⟨k, hk, rfl, hall⟩ := hrel
    by_cases hlt : k < n
    · have hltN : k < N := by omega
      by_cases hz : c k = 0
      · have hz' : (c k == 0) = true := by simpa using hz
        have HZ := hide hz
        clear hz
        go_wp2_with ((go_at_call 145); (refine (tile0_any _ _).mono ?_); rintro e w' ⟨rfl, rfl⟩)
        go_ret
        exact ⟨_, rfl, .inr ⟨k, hlt, rfl, HZ.out, hall.out⟩, rfl⟩
      · have hz' : (c k == 0) = false := by simpa using hz
        have HZ := hide hz
        clear hz
        go_wp2_with ((go_at_call 145); (refine (tile0_any _ _).mono ?_); rintro e w' ⟨rfl, rfl⟩)
        go_round
        case rel => exact ⟨k + 1, by omega, by go_num, hide (all_succ hall.out HZ.out)⟩
        case measure => simp [intOf]; omega
    · obtain rfl : k = n := by omega
      go_wp2
      go_ret
      exact ⟨_, rfl, .inl ⟨rfl, hall.out⟩, rfl⟩

/-- The row of slices.DeleteFunc behind j elements: what was kept, then whatever, then what is still to come. -/
def DfS (c d : Nat → Int) (i j : Nat) : Prop := i = (kept c j).length ∧ (∀ o, o < i → d o = (kept c j).getD o 0) ∧ ∀ o, j ≤ o → d o = c o

theorem DfS.start {c : Nat → Int} {k : Nat} (h : ∀ j, j < k → c j ≠ 0) (hz : c k = 0) : DfS c c k (k + 1) := by
  refine ⟨by simp [kept_zero h hz], fun o ho => ?_, fun _ _ => rfl⟩
  rw [kept_zero h hz]
  simp [ho]
theorem DfS.drop {c d : Nat → Int} {i j : Nat} (h : DfS c d i j) (hz : d j = 0) : DfS c d i (j + 1) := by
  have hz' : c j = 0 := by rw [← h.2.2 j (Nat.le_refl _)]; exact hz
  refine ⟨by rw [kept_succ, if_pos hz']; exact h.1, by rw [kept_succ, if_pos hz']; exact h.2.1, fun o ho => h.2.2 o (by omega)⟩
theorem DfS.keep {c d : Nat → Int} {i j : Nat} (h : DfS c d i j) (hz : d j ≠ 0) : DfS c (fun o => if o = i then d j else d o) (i + 1) (j + 1) := by
  have e := h.2.2 j (Nat.le_refl _)
  have hz' : c j ≠ 0 := by rw [← e]; exact hz
  have hij : i ≤ j := by rw [h.1]; exact kept_len c j
  refine ⟨by rw [kept_succ, if_neg hz', List.length_append, ← h.1]; rfl, fun o ho => ?_, fun o ho => ?_⟩
  · rw [kept_succ, if_neg hz']
    by_cases ho2 : o = i
    · subst ho2
      simp [h.1, e]
    · have h3 : o < i := by omega
      have h4 : o < (kept c j).length := by rw [← h.1]; exact h3
      simp only [ho2, if_false]
      rw [h.2.1 o h3]
      simp [List.getD, List.getElem?_append_left h4]
  · have : o ≠ i := by omega
    simp only [this, if_false]
    exact h.2.2 o (by omega)

set_option maxHeartbeats 4000000 in
theorem deleteFunc0_any (g n cap : Nat) (c : Nat → Int) (w : World) (hH : Has w g n (fun i => .int .i64 (c i))) (hn : n ≤ 65536) (hcap : n ≤ cap) :
    Calls Try.prog 143 #[.slice (some ⟨g, 0, none⟩) n cap, .func (.func 145) #[] #[]] w fun e w' =>
      e = .returned (.slice (some ⟨g, 0, none⟩) (kept c n).length cap) ∧ Only g w w' ∧ Has w' g (kept c n).length (fun i => .int .i64 ((kept c n).getD i 0)) := by
  have hI := fun w' hH' => indexFunc0_any g n cap n c w' hH' (Nat.le_refl _) hn
  have HI := hide (hI w hH)
  clear hI
  have HH := hide hH
  clear hH
  go_enter Try.func143, Try.ntmps143
  go_wp2_with fail
  refine HI.out.mono ?_
  rintro e w' ⟨i, rfl, hfz, rfl⟩
  rcases hfz with ⟨rfl, hall⟩ | ⟨k, hk, rfl, hz, hall⟩
  · have HA := hide hall
    clear hall
    go_wp2
    go_ret
    have e : kept c n = (List.range n).map c := kept_all HA.out
    refine ⟨by rw [e]; simp, ⟨rfl, rfl, rfl, rfl, fun _ _ => rfl⟩, ?_⟩
    rw [e]
    simp only [List.length_map, List.length_range]
    exact HH.out.congr fun o ho => by simp [ho]
  · have hs := DfS.start hall hz
    have HS := hide hs
    clear hs hz hall HI
    have hk1 : ((k : Int) == -1) = false := beq_eq_false_iff_ne.2 (by omega)
    go_wp2
    clear hk1
    go_loopw [5, 6] (fun v5 v6 wr => ∃ (i j : Nat) (d : Nat → Int), v5 = .int .i64 i ∧ v6 = .int .i64 j ∧ i < j ∧ j ≤ n ∧ Hid (DfS c d i j) ∧ Only g w wr ∧ Has wr g n (fun o => .int .i64 (d o))) (fun _ j _ => n - (intOf j).toNat)
    case atStart => exact ⟨k, k + 1, c, rfl, by go_num, by omega, by omega, HS, ⟨rfl, rfl, rfl, rfl, fun _ _ => rfl⟩, HH.out⟩
    case round =>
      obtain ⟨i, j, d, rfl, rfl, hij, hjn, HD, hO, i0⟩ := hrel
      have ci0 := i0.1; have fi0 := i0.2.1; have zi0 := i0.2.2
      by_cases hlt : j < n
      · by_cases hz : d j = 0
        · have hz' : (d j == 0) = true := by simpa using hz
          have HZ := hide hz
          clear hz
          go_wp2_with ((go_at_call 145); (refine (tile0_any _ _).mono ?_); rintro e w' ⟨rfl, rfl⟩)
          go_roundw
          case rel => exact ⟨i, j + 1, d, rfl, by go_num, by omega, by omega, hide (HD.out.drop HZ.out), hO, i0⟩
          case measure => simp [intOf]; omega
        · have hz' : (d j == 0) = false := by simpa using hz
          have HZ := hide hz
          clear hz
          have hin : i < n := by omega
          go_wp2_with (first | ((go_at_call 145); (refine (tile0_any _ _).mono ?_); rintro e w' ⟨rfl, rfl⟩) | (refine store_int rfl _ _ rfl _ _ _ rfl rfl i0 (by omega) ?_; intro w3 ho3 hn3; have hO' := hO.trans ho3))
          go_roundw
          case rel => exact ⟨i + 1, j + 1, (fun o => if o = i then d j else d o), by go_num, by go_num, by omega, by omega, hide (HD.out.keep HZ.out), hO', hn3.congr fun o _ => ite_int _ _ _⟩
          case measure => simp [intOf]; omega
      · obtain rfl : j = n := by omega
        have hcap' : i < cap := by omega
        go_wp2_with (refine clear_int rfl _ rfl _ _ _ _ rfl i0 (by omega) (by omega) ?_; intro w3 ho3 hn3; have hO' := hO.trans ho3)
        go_ret
        have e := HD.out.1
        refine ⟨by rw [← e]; rfl, hO', ?_⟩
        rw [← e]
        refine ⟨fun o ho => ?_, hn3.2⟩
        rw [hn3.1 o (by omega)]
        simp only []
        rw [if_neg (by omega), HD.out.2.1 o ho]
        rfl

set_option maxHeartbeats 2000000 in
theorem tiles_any (r : Nat → Int) (w : World) : Calls Try.prog 134 #[.agg #[.int .i64 (r 0), .int .i64 (r 1), .int .i64 (r 2), .int .i64 (r 3)]] w fun e w' => ∃ A cap, e = .returned (.slice A (tilesL r).length cap) ∧ Sl w' w.heap.size A (tilesL r).length (fun i => .int .i64 ((tilesL r).getD i 0)) ∧ Below w.heap.size w w' := by
  go_enter Try.func134, Try.ntmps134
  go_wp2_with fail
  generalize hW : w.alloc _ = w1
  have hB : Below w.heap.size w w1 := by (rw [← hW]; exact (by repeat (first | (with_reducible exact Below.refl _ _) | (with_reducible assumption) | (with_reducible refine below_go ?_ (by with_reducible assumption)) | (with_reducible refine below_new ?_ _) | ((with_reducible refine below_put ?_ ?_ _); rotate_left; (dsimp only; omega)) | (with_reducible refine Below.drew ?_) | (with_reducible refine below_dn ?_ _))))
  have i0 : Has w1 (w.heap.size) 4 (fun o => .int .i64 (r o)) := by (rw [← hW]; repeat (first | (refine Has.new ?_ rfl; simp; done) | refine Has.alloc ?_ _))
  have ci0 := i0.1; have fi0 := i0.2.1; have zi0 := i0.2.2
  clear hW
  refine (clone_any w.heap.size 0 4 4 4 r w1 i0 (by omega) (by omega)).mono ?_
  rintro e w2 ⟨v, rfl, hown, hb2⟩
  obtain ⟨A, cap, rfl, hcap, hS⟩ := own_sl hown
  obtain ⟨g, rfl, hg, hH⟩ := hS (by omega)
  have hg' : w.heap.size ≤ g := by have := hB.size; omega
  have hB2 := below_go hB hb2
  clear hown hb2 hB ci0 fi0 zi0 i0 hS hg
  have hH2 := hH.congr (d := fun o => .int .i64 (r o)) (fun o ho => by simp [ho])
  have H2 := hide hH2
  clear hH hH2
  go_wp2_with fail
  refine (deleteFunc0_any g 4 cap r w2 H2.out (by omega) hcap).mono ?_
  rintro e w3 ⟨rfl, ho, hH3⟩
  go_wp2
  go_ret
  exact ⟨_, _, rfl, fun _ => ⟨g, rfl, hg', hH3⟩, below_only hB2 ho hg'⟩

end Go.Proofs.Ytegdnfmhhigjfaa

namespace Go.Proofs.Ytegdnfmhhigjfaa
open Go.RowKit

theorem load_A4b {ops : Array Oper} {rest : List Oper} {op : Oper} {a : Act} {w : World} {Q : Exit → Act → World → Prop} (hgd : op.guard = none) (x : Operand) (ho : op.op = .load 119 x)
    (b o : Nat) (hx : a.eval x = .pointer (some ⟨b, o, none⟩)) {n : Nat} {c : Nat → Value} (hH : Has w b n c) (hle : o + 4 ≤ n)
    (h : wpList Try.prog ops Q rest (a.put op.dst (.agg #[c o, c (o + 1), c (o + 2), c (o + 3)])) w) : wpList Try.prog ops Q (op :: rest) a w :=
  wpList_load_mid hgd 119 x ho b o hx [c o, c (o + 1), c (o + 2), c (o + 3)] _ (hH.range 4 hle) Try.underlying119 rfl (by kernel_rfl) h

theorem store_A4b {ops : Array Oper} {rest : List Oper} {op : Oper} {a : Act} {w : World} {Q : Exit → Act → World → Prop} (hgd : op.guard = none) (x y : Operand) (ho : op.op = .store 119 x y)
    (b o : Nat) (v0 v1 v2 v3 : Value) (hx : a.eval x = .pointer (some ⟨b, o, none⟩)) (hy : a.eval y = .agg #[v0, v1, v2, v3]) (h1 : ([v0, v1, v2, v3] : List Value).all (·.oneCell') = true) {n : Nat} {c : Nat → Value} (hH : Has w b n c) (hle : o + 4 ≤ n)
    (h : ∀ w2, Only b w w2 → Has w2 b n (fun j => if j = o then v0 else if j = o + 1 then v1 else if j = o + 2 then v2 else if j = o + 3 then v3 else c j) → wpList Try.prog ops Q rest (a.put op.dst undef) w2) : wpList Try.prog ops Q (op :: rest) a w :=
  wpList_store_mid hgd 119 x y ho b o #[v0, v1, v2, v3] hx hy (hH.there 4 hle) (by kernel_rfl) (by simpa using h1)
    (h _ (only_setCells _ _ _ _) (by
      refine (hH.sets [v0, v1, v2, v3] hle).congr fun j _ => ?_
      simp only [List.length_cons, List.length_nil]
      by_cases hj : o ≤ j ∧ j < o + 4
      · obtain ⟨i, rfl⟩ : ∃ i, j = o + i := ⟨j - o, by omega⟩
        have hi : i < 4 := by omega
        rw [if_pos (by omega)]
        rcases (by omega : i = 0 ∨ i = 1 ∨ i = 2 ∨ i = 3) with rfl | rfl | rfl | rfl <;> simp
      · rw [if_neg (by omega)]
        repeat rw [if_neg (by omega)]))

theorem loadVar_A4b {w : World} {b n : Nat} {c : Nat → Value} (hH : Has w b n c) (hle : 4 ≤ n) : (loadVar 119 ⟨b, 0, none⟩).run Try.prog w = .ok (.agg #[c 0, c 1, c 2, c 3]) w :=
  run_loadVar_mid w b 0 119 [c 0, c 1, c 2, c 3] _ (hH.range 4 (by omega) (by simp [List.range_succ])) Try.underlying119 rfl (by kernel_rfl)


theorem results_ctc {P : Program} {fn : Func} {p q r : Tmp} {ty tz : TypeId} {tmps : Array Value} {w : World} {b b2 : Nat} {v u : Value} (h : fn.results = #[.cell p ty, .tmp q, .cell r tz]) (hp : tmps.getD p undef = .pointer (some ⟨b, 0, none⟩)) (hr : tmps.getD r undef = .pointer (some ⟨b2, 0, none⟩))
    (hl : (loadVar ty ⟨b, 0, none⟩).run P w = .ok v w) (hm : (loadVar tz ⟨b2, 0, none⟩).run P w = .ok u w) : (results fn tmps).run P w = .ok (.tuple #[v, tmps.getD q undef, u]) w := by
  have hp' : tmps[p]?.getD undef = .pointer (some ⟨b, 0, none⟩) := by simpa using hp
  have hr' : tmps[r]?.getD undef = .pointer (some ⟨b2, 0, none⟩) := by simpa using hr
  simp [results, h, hp', hr', asAddr, hl, hm]

end Go.Proofs.Ytegdnfmhhigjfaa

namespace Go.Proofs.Ytegdnfmhhigjfaa

theorem n5 {n : Nat} (h : n ≤ 4) : n = 0 ∨ n = 1 ∨ n = 2 ∨ n = 3 ∨ n = 4 := by omega

/-- The tiles of a row that is flush with n tiles. -/
theorem tilesL_flush {o : Nat → Int} {n : Nat} (hn : n ≤ 4) (hp : ∀ j, j < n → o j ≠ 0) (hz : ∀ j, n ≤ j → o j = 0) : tilesL o = (List.range n).map o := by
  rcases n5 hn with rfl | rfl | rfl | rfl | rfl
  · simp [tilesL, hz 0, hz 1, hz 2, hz 3]
  · simp [tilesL, hp 0, hz 1, hz 2, hz 3, List.range_succ]
  · simp [tilesL, hp 0, hp 1, hz 2, hz 3, List.range_succ]
  · simp [tilesL, hp 0, hp 1, hp 2, hz 3, List.range_succ]
  · simp [tilesL, hp 0, hp 1, hp 2, hp 3, List.range_succ]

theorem SR.slid_ok {r : Nat → Int} (hr : ∀ i, i < 4 → 0 ≤ r i ∧ r i ≤ 17) : (SR.slid r).Ok 4 := SR.ok_upto r hr 4 (by omega)
theorem SR.slid_tiles (r : Nat → Int) : SR.slid r = SR.tiles (tilesL r) (tilesL r).length := by
  rw [← SR.foldl_tiles]; unfold SR.tiles; rw [List.take_length]
theorem SR.slid_n_le {r : Nat → Int} (hr : ∀ i, i < 4 → 0 ≤ r i ∧ r i ≤ 17) : (SR.slid r).n ≤ (tilesL r).length := by
  rw [SR.slid_tiles]; exact (SR.ok_tiles (tilesL_pos r hr) _ (Nat.le_refl _)).n
theorem slid_tilesL {r : Nat → Int} (hr : ∀ i, i < 4 → 0 ≤ r i ∧ r i ≤ 17) : tilesL (SR.slid r).out = (List.range (SR.slid r).n).map (SR.slid r).out := by
  have ok := SR.slid_ok hr
  exact tilesL_flush ok.n (fun j hj => by have := ok.pos j hj; omega) ok.zero
theorem slid_len {r : Nat → Int} (hr : ∀ i, i < 4 → 0 ≤ r i ∧ r i ≤ 17) : (tilesL (SR.slid r).out).length = (SR.slid r).n := by
  rw [slid_tilesL hr]; simp

/-- Where no tile is lost, nothing has merged. -/
theorem SR.tiles_full {l : List Int} (h : ∀ t, t ∈ l → 1 ≤ t ∧ t ≤ 17) : ∀ k, k ≤ l.length → (SR.tiles l k).n = k → (∀ j, j < k → (SR.tiles l k).out j = l.getD j 0) ∧ (∀ j, (SR.tiles l k).mg j = false) ∧ (SR.tiles l k).score = 0
  | 0, _, _ => ⟨fun j hj => absurd hj (Nat.not_lt_zero _), fun _ => rfl, rfl⟩
  | k + 1, hk, hn => by
    rw [SR.tiles_succ (by omega)] at hn ⊢
    have ok := SR.ok_tiles h k (by omega)
    unfold SR.step at hn ⊢
    split at hn
    · have := ok.n
      simp only [SR.merged] at hn
      omega
    · rename_i hm
      rw [if_neg hm]
      simp only [SR.pushed] at hn ⊢
      have ih := SR.tiles_full h k (by omega) (by omega)
      refine ⟨fun j hj => ?_, ih.2.1, ih.2.2⟩
      by_cases e : j = k
      · subst e
        rw [if_pos (by omega)]
      · rw [if_neg (by omega)]
        exact ih.1 j (by omega)
/-- Where a tile is lost, something has merged, and the score is not 0. -/
theorem SR.tiles_less {l : List Int} (h : ∀ t, t ∈ l → 1 ≤ t ∧ t ≤ 17) : ∀ k, k ≤ l.length → (SR.tiles l k).n < k → 0 < (SR.tiles l k).score
  | 0, _, hn => absurd hn (Nat.not_lt_zero _)
  | k + 1, hk, hn => by
    rw [SR.tiles_succ (by omega)] at hn ⊢
    have ok := SR.ok_tiles h k (by omega)
    unfold SR.step at hn ⊢
    split at hn
    · rename_i hm
      rw [if_pos hm]
      simp only [SR.merged]
      have := ok.lo
      have h2 : 0 < wrt (l.getD k 0 + 1) := by
        unfold wrt
        exact Int.ofNat_lt.2 (Nat.pow_pos (by omega))
      omega
    · rename_i hm
      rw [if_neg hm]
      simp only [SR.pushed] at hn ⊢
      exact SR.tiles_less h k (by omega) (by omega)
theorem slid_score_zero {r : Nat → Int} (hr : ∀ i, i < 4 → 0 ≤ r i ∧ r i ≤ 17) : (SR.slid r).score = 0 ↔ (SR.slid r).n = (tilesL r).length := by
  rw [SR.slid_tiles]
  have ok := SR.ok_tiles (tilesL_pos r hr) (tilesL r).length (Nat.le_refl _)
  constructor
  · intro h
    rcases Nat.lt_or_ge (SR.tiles (tilesL r) (tilesL r).length).n (tilesL r).length with h2 | h2
    · have := SR.tiles_less (tilesL_pos r hr) _ (Nat.le_refl _) h2
      omega
    · have := ok.n; omega
  · exact fun h => (SR.tiles_full (tilesL_pos r hr) _ (Nat.le_refl _) h).2.2

/-- No empty cell stands ahead of a tile. -/
def flP (r : Nat → Int) : Prop := ∀ k, k < 3 → r k = 0 → r (k + 1) = 0
theorem flP_tiles {r : Nat → Int} (h : flP r) : ∀ j, j < 4 → r j = (tilesL r).getD j 0 := by
  have h0 := h 0 (by omega); have h1 := h 1 (by omega); have h2 := h 2 (by omega)
  simp only [Nat.zero_add, Nat.reduceAdd] at h0 h1 h2
  intro j hj
  rcases (by omega : j = 0 ∨ j = 1 ∨ j = 2 ∨ j = 3) with rfl | rfl | rfl | rfl <;>
    (by_cases z0 : r 0 = 0 <;> by_cases z1 : r 1 = 0 <;> by_cases z2 : r 2 = 0 <;> by_cases z3 : r 3 = 0 <;> simp_all [tilesL])
theorem slid_flP {r : Nat → Int} (hr : ∀ i, i < 4 → 0 ≤ r i ∧ r i ≤ 17) : flP (SR.slid r).out := by
  intro k hk hz
  have ok := SR.slid_ok hr
  by_cases h : k < (SR.slid r).n
  · have := ok.pos k h; omega
  · exact ok.zero _ (by omega)

instance (r : Nat → Int) : Decidable (flP r) := by unfold flP; exact inferInstance
def muR (r : Nat → Int) : Nat := 2 * (tilesL r).length + if flP r then 0 else 1
def fixP (r : Nat → Int) : Prop := ∀ j, j < 4 → (SR.slid r).out j = r j
theorem muR_lt {r : Nat → Int} (hr : ∀ i, i < 4 → 0 ≤ r i ∧ r i ≤ 17) (h : ¬ fixP r) : muR (SR.slid r).out < muR r := by
  unfold muR
  rw [slid_len hr, if_pos (slid_flP hr)]
  have hle := SR.slid_n_le hr
  rcases Nat.lt_or_ge (SR.slid r).n (tilesL r).length with h1 | h1
  · omega
  · have e : (SR.slid r).n = (tilesL r).length := by omega
    split
    · rename_i hf
      exfalso
      apply h
      intro j hj
      rw [flP_tiles hf j hj]
      rcases Nat.lt_or_ge j (tilesL r).length with h2 | h2
      · have := SR.tiles_full (tilesL_pos r hr) (tilesL r).length (Nat.le_refl _) (by rw [← SR.slid_tiles]; exact e)
        rw [SR.slid_tiles]
        exact this.1 j h2
      · rw [(SR.slid_ok hr).zero j (by omega)]
        simp [h2]
    · omega

/-- The row behind k slides. -/
def itR (r : Nat → Int) : Nat → Nat → Int
  | 0 => r
  | k + 1 => (SR.slid (itR r k)).out
theorem slid_in' {r : Nat → Int} (hr : ∀ i, i < 4 → 0 ≤ r i ∧ r i ≤ 17) : ∀ i, i < 4 → 0 ≤ (SR.slid r).out i ∧ (SR.slid r).out i ≤ 17 := by
  intro i hi
  have ok := SR.slid_ok hr
  by_cases h : i < (SR.slid r).n
  · have := ok.pos i h; omega
  · have := ok.zero i (by omega); omega
theorem itR_in {r : Nat → Int} (hr : ∀ i, i < 4 → 0 ≤ r i ∧ r i ≤ 17) : ∀ k, ∀ i, i < 4 → 0 ≤ itR r k i ∧ itR r k i ≤ 17
  | 0 => hr
  | k + 1 => slid_in' (itR_in hr k)
theorem settles {r : Nat → Int} (hr : ∀ i, i < 4 → 0 ≤ r i ∧ r i ≤ 17) : ∃ K, K ≤ 9 ∧ fixP (itR r K) ∧ ∀ j, j < K → ¬ fixP (itR r j) := by
  have key : ∀ (d k : Nat), muR (itR r k) ≤ d → (∀ j, j < k → ¬ fixP (itR r j)) → ∃ K, K ≤ k + d ∧ fixP (itR r K) ∧ ∀ j, j < K → ¬ fixP (itR r j) := by
    intro d
    induction d with
    | zero =>
      intro k hm hall
      by_cases h : fixP (itR r k)
      · exact ⟨k, by omega, h, hall⟩
      · have := muR_lt (itR_in hr k) h
        omega
    | succ d ih =>
      intro k hm hall
      by_cases h : fixP (itR r k)
      · exact ⟨k, by omega, h, hall⟩
      · have h2 := muR_lt (itR_in hr k) h
        obtain ⟨K, h3, h4⟩ := ih (k + 1) (by show muR (SR.slid (itR r k)).out ≤ d; omega) (fun j hj => by
          rcases Nat.lt_or_ge j k with h5 | h5
          · exact hall j h5
          · obtain rfl : j = k := by omega
            exact h)
        exact ⟨K, by omega, h4⟩
  obtain ⟨K, h1, h2⟩ := key 9 0 (by
    have := tilesL_len r
    show muR r ≤ 9
    unfold muR; split <;> omega) (fun j hj => absurd hj (Nat.not_lt_zero _))
  exact ⟨K, by omega, h2⟩

end Go.Proofs.Ytegdnfmhhigjfaa

namespace Go.Proofs.Ytegdnfmhhigjfaa
open Go.RowKit

set_option maxHeartbeats 4000000 in
theorem isBoard_any (b : Nat → Int) (w : World) : Calls Try.prog 27 #[.agg #[.int .i64 (b 0), .int .i64 (b 1), .int .i64 (b 2), .int .i64 (b 3), .int .i64 (b 4), .int .i64 (b 5), .int .i64 (b 6), .int .i64 (b 7), .int .i64 (b 8), .int .i64 (b 9), .int .i64 (b 10), .int .i64 (b 11), .int .i64 (b 12), .int .i64 (b 13), .int .i64 (b 14), .int .i64 (b 15)]] w fun e w' => e = .returned (.bool (bdB b)) ∧ Below w.heap.size w w' := by
  go_enter Try.func27, Try.ntmps27
  go_wp2_with (first | (rw [rounds_succ]) | (with_reducible refine wp_loop_rounds 5 ?_) | (go_at_call 85; refine (isRow_any _ _ _ _ _).mono ?_; rintro e w1 ⟨rfl, hb1⟩; obtain ⟨hc1, hf1⟩ := bcell hb1; have hq1 := hb1.size; (try simp at hq1); have hz0 : w.heap.size < w1.heap.size := (by omega); clear hq1) | go_in)
  all_goals
    go_ret
    refine ⟨ret_bool ?_, (by repeat (first | (with_reducible exact Below.refl _ _) | (with_reducible assumption) | (with_reducible refine below_go ?_ (by with_reducible assumption)) | (with_reducible refine below_new ?_ _) | ((with_reducible refine below_put ?_ ?_ _); rotate_left; (dsimp only; omega)) | (with_reducible refine Below.drew ?_) | (with_reducible refine below_dn ?_ _)))⟩
    simp_all [bdB]

end Go.Proofs.Ytegdnfmhhigjfaa

namespace Go.Proofs.Ytegdnfmhhigjfaa
open Go.RowKit

theorem info_Bd : (Try.prog.info? 27).map (·.size) = some 16 := by kernel_rfl
theorem stc_new (w : World) (f : Nat → Int) : (storeCells ⟨w.heap.size, 0, none⟩ [.int .i64 (f 0), .int .i64 (f 1), .int .i64 (f 2), .int .i64 (f 3), .int .i64 (f 4), .int .i64 (f 5), .int .i64 (f 6), .int .i64 (f 7), .int .i64 (f 8), .int .i64 (f 9), .int .i64 (f 10), .int .i64 (f 11), .int .i64 (f 12), .int .i64 (f 13), .int .i64 (f 14), .int .i64 (f 15)] 0).run Try.prog (w.alloc (.cells #[.int .i64 0, .int .i64 0, .int .i64 0, .int .i64 0, .int .i64 0, .int .i64 0, .int .i64 0, .int .i64 0, .int .i64 0, .int .i64 0, .int .i64 0, .int .i64 0, .int .i64 0, .int .i64 0, .int .i64 0, .int .i64 0] 27)) = .ok () (w.alloc (.cells #[.int .i64 (f 0), .int .i64 (f 1), .int .i64 (f 2), .int .i64 (f 3), .int .i64 (f 4), .int .i64 (f 5), .int .i64 (f 6), .int .i64 (f 7), .int .i64 (f 8), .int .i64 (f 9), .int .i64 (f 10), .int .i64 (f 11), .int .i64 (f 12), .int .i64 (f 13), .int .i64 (f 14), .int .i64 (f 15)] 27)) :=
  run_storeCells_new (P := Try.prog) w 27 #[.int .i64 0, .int .i64 0, .int .i64 0, .int .i64 0, .int .i64 0, .int .i64 0, .int .i64 0, .int .i64 0, .int .i64 0, .int .i64 0, .int .i64 0, .int .i64 0, .int .i64 0, .int .i64 0, .int .i64 0, .int .i64 0] #[.int .i64 (f 0), .int .i64 (f 1), .int .i64 (f 2), .int .i64 (f 3), .int .i64 (f 4), .int .i64 (f 5), .int .i64 (f 6), .int .i64 (f 7), .int .i64 (f 8), .int .i64 (f 9), .int .i64 (f 10), .int .i64 (f 11), .int .i64 (f 12), .int .i64 (f 13), .int .i64 (f 14), .int .i64 (f 15)] info_Bd rfl (by simp [Value.oneCell'])

/-- The world behind a store of the board f into block B. -/
def setB (w : World) (B : Nat) (f : Nat → Int) : World := w.setCells B 0 [.int .i64 (f 0), .int .i64 (f 1), .int .i64 (f 2), .int .i64 (f 3), .int .i64 (f 4), .int .i64 (f 5), .int .i64 (f 6), .int .i64 (f 7), .int .i64 (f 8), .int .i64 (f 9), .int .i64 (f 10), .int .i64 (f 11), .int .i64 (f 12), .int .i64 (f 13), .int .i64 (f 14), .int .i64 (f 15)]
theorem stc_has {w : World} {B : Nat} {c : Nat → Value} (h : Has w B 16 c) (f : Nat → Int) : (storeCells ⟨B, 0, none⟩ [.int .i64 (f 0), .int .i64 (f 1), .int .i64 (f 2), .int .i64 (f 3), .int .i64 (f 4), .int .i64 (f 5), .int .i64 (f 6), .int .i64 (f 7), .int .i64 (f 8), .int .i64 (f 9), .int .i64 (f 10), .int .i64 (f 11), .int .i64 (f 12), .int .i64 (f 13), .int .i64 (f 14), .int .i64 (f 15)] 0).run Try.prog w = .ok () (setB w B f) := by
  have hst := run_storeCells_cells (P := Try.prog) B 0 [.int .i64 (f 0), .int .i64 (f 1), .int .i64 (f 2), .int .i64 (f 3), .int .i64 (f 4), .int .i64 (f 5), .int .i64 (f 6), .int .i64 (f 7), .int .i64 (f 8), .int .i64 (f 9), .int .i64 (f 10), .int .i64 (f 11), .int .i64 (f 12), .int .i64 (f 13), .int .i64 (f 14), .int .i64 (f 15)] 0 w
    (fun j hj => by simp only [List.length_cons, List.length_nil] at hj; simp only [Nat.zero_add]; rw [h.1 j (by omega)]; rfl) (fun j _ => h.2.1 _) (by simp [Value.oneCell'])
  exact hst
theorem setB_only (w : World) (B : Nat) (f : Nat → Int) : Only B w (setB w B f) := only_setCells _ _ _ _
theorem Has.setB {w : World} {B : Nat} {c : Nat → Value} (h : Has w B 16 c) (f : Nat → Int) : Has (setB w B f) B 16 (fun o => .int .i64 (f o)) :=
  (h.sets [.int .i64 (f 0), .int .i64 (f 1), .int .i64 (f 2), .int .i64 (f 3), .int .i64 (f 4), .int .i64 (f 5), .int .i64 (f 6), .int .i64 (f 7), .int .i64 (f 8), .int .i64 (f 9), .int .i64 (f 10), .int .i64 (f 11), .int .i64 (f 12), .int .i64 (f 13), .int .i64 (f 14), .int .i64 (f 15)] (by simp)).congr fun o ho => by
    rcases (by omega : o = 0 ∨ o = 1 ∨ o = 2 ∨ o = 3 ∨ o = 4 ∨ o = 5 ∨ o = 6 ∨ o = 7 ∨ o = 8 ∨ o = 9 ∨ o = 10 ∨ o = 11 ∨ o = 12 ∨ o = 13 ∨ o = 14 ∨ o = 15) with rfl | rfl | rfl | rfl | rfl | rfl | rfl | rfl | rfl | rfl | rfl | rfl | rfl | rfl | rfl | rfl <;> rfl
theorem Has.setB_ne {w : World} {B B' n : Nat} {c : Nat → Value} (h : Has w B n c) (f : Nat → Int) (hne : B ≠ B') : Has (Go.Proofs.Ytegdnfmhhigjfaa.setB w B' f) B n c := h.only (setB_only _ _ _) hne
theorem below_setB {w a : World} (h : Below w.heap.size w a) {B : Nat} (hp : w.heap.size ≤ B) (f : Nat → Int) : Below w.heap.size w (Go.Proofs.Ytegdnfmhhigjfaa.setB a B f) := below_only h (setB_only _ _ _) hp

/-- A store of a whole board into a block that is known, as a step of a region that draws. -/
theorem wp_store_BoardF {op : Oper} {a : Act} {w : World} {K : Act → World → Prop} {Q : Exit → Act → World → Prop} (x y : Operand) (ho : op.op = .store 27 x y)
    (b : Nat) (f : Nat → Int) (hx : a.eval x = .pointer (some ⟨b, 0, none⟩)) (hy : a.eval y = .agg #[.int .i64 (f 0), .int .i64 (f 1), .int .i64 (f 2), .int .i64 (f 3), .int .i64 (f 4), .int .i64 (f 5), .int .i64 (f 6), .int .i64 (f 7), .int .i64 (f 8), .int .i64 (f 9), .int .i64 (f 10), .int .i64 (f 11), .int .i64 (f 12), .int .i64 (f 13), .int .i64 (f 14), .int .i64 (f 15)]) (hd : op.dst = none) {c : Nat → Value} (hH : Has w b 16 c)
    (h : ∀ w2, Only b w w2 → Has w2 b 16 (fun o => .int .i64 (f o)) → K a w2) : op.wp Try.prog a w K Q :=
  wp_store_mid 27 x y ho b 0 #[.int .i64 (f 0), .int .i64 (f 1), .int .i64 (f 2), .int .i64 (f 3), .int .i64 (f 4), .int .i64 (f 5), .int .i64 (f 6), .int .i64 (f 7), .int .i64 (f 8), .int .i64 (f 9), .int .i64 (f 10), .int .i64 (f 11), .int .i64 (f 12), .int .i64 (f 13), .int .i64 (f 14), .int .i64 (f 15)] hx hy (hH.there 16 (by omega)) info_Bd (by simp [Value.oneCell'])
    (by rw [hd]; exact h _ (setB_only w b f) (hH.setB f))
/-- 'wpAnyH_take' with the slot written out. -/
theorem take_d {P : Program} {ops : Array Oper} {Q : Exit → Act → World → Prop} {md : Region.Mode} {S : World → Prop} {i : Nat} {oi : Oper} (d : Option Tmp) {v : Value} {fuel : Nat} {listed : Array Bool} {a : Act} {w : World} (hi : ops[i]? = some oi) (hd : oi.dst = d)
    (hs : Region.noSelect ops = true) (hf : Region.free md ops listed i = true) (hr : (Region.ready md ops listed).contains i = true)
    (hQ : ∀ c a w, Q (.panic c) (a.put d v) w → Q (.panic c) a w) (hy : YieldsIf P ops S oi v a) (hS : S w)
    (h : wpAnyH P md ops Q S fuel (listed.setIfInBounds i true) (a.put d v) w) : wpAnyH P md ops Q S (fuel + 1) listed a w := by
  subst hd
  exact wpAnyH_take hi hs hf hr hQ hy hS h
/-- The cells of the board that a region loads. -/
def RB (B0 : Nat) (b : Nat → Int) (w' : World) : Prop := w'.rangeAt B0 0 [.int .i64 (b 0), .int .i64 (b 1), .int .i64 (b 2), .int .i64 (b 3), .int .i64 (b 4), .int .i64 (b 5), .int .i64 (b 6), .int .i64 (b 7), .int .i64 (b 8), .int .i64 (b 9), .int .i64 (b 10), .int .i64 (b 11), .int .i64 (b 12), .int .i64 (b 13), .int .i64 (b 14), .int .i64 (b 15)]
theorem rb_of {w' : World} {B0 : Nat} {b : Nat → Int} (h : Has w' B0 16 (fun o => .int .i64 (b o))) : RB B0 b w' := h.range 16 (by omega) (by simp [List.range_succ])
theorem RB.r {w' : World} {B0 : Nat} {b : Nat → Int} (h : RB B0 b w') : w'.rangeAt B0 0 [.int .i64 (b 0), .int .i64 (b 1), .int .i64 (b 2), .int .i64 (b 3), .int .i64 (b 4), .int .i64 (b 5), .int .i64 (b 6), .int .i64 (b 7), .int .i64 (b 8), .int .i64 (b 9), .int .i64 (b 10), .int .i64 (b 11), .int .i64 (b 12), .int .i64 (b 13), .int .i64 (b 14), .int .i64 (b 15)] := h
def R2 (B0 : Nat) (x y : Value) (w' : World) : Prop := w'.rangeAt B0 0 [x, y]
theorem R2.r {w' : World} {B0 : Nat} {x y : Value} (h : R2 B0 x y w') : w'.rangeAt B0 0 [x, y] := h
theorem r2_of {w' : World} {B0 : Nat} {x y : Value} (h : Has w' B0 2 (fun o => if o = 0 then x else y)) : R2 B0 x y w' := h.range 2 (by omega) (by simp [List.range_succ])

end Go.Proofs.Ytegdnfmhhigjfaa

namespace Go.Proofs.Ytegdnfmhhigjfaa

def rotS (q : Nat) : Nat := 4 * (3 - q % 4) + q / 4
def mirS (q : Nat) : Nat := 4 * (q / 4) + (3 - q % 4)
/-- Where the number in place q of form k comes from. -/
def srcP (k q : Nat) : Nat := match k with
  | 0 => q | 1 => rotS q | 2 => rotS (rotS q) | 3 => rotS (rotS (rotS q))
  | 4 => mirS q | 5 => rotS (mirS q) | 6 => rotS (rotS (mirS q)) | _ => rotS (rotS (rotS (mirS q)))
def formB (b : Nat → Int) (k : Nat) : Nat → Int := fun q => b (srcP k q)
/-- Where form k moves place p. -/
def mvR (p : Nat) : Nat := 4 * (p % 4) + (3 - p / 4)
def mvP (k p : Nat) : Nat := match k with
  | 0 => p | 1 => mvR p | 2 => mvR (mvR p) | 3 => mvR (mvR (mvR p))
  | 4 => mirS p | 5 => mirS (mvR p) | 6 => mirS (mvR (mvR p)) | _ => mirS (mvR (mvR (mvR p)))

theorem srcP_lt : ∀ k, k < 8 → ∀ q, q < 16 → srcP k q < 16 := by decide
theorem mvP_lt : ∀ k, k < 8 → ∀ q, q < 16 → mvP k q < 16 := by decide
theorem srcP_mvP : ∀ k, k < 8 → ∀ p, p < 16 → srcP k (mvP k p) = p := by decide
theorem mvP_srcP : ∀ k, k < 8 → ∀ p, p < 16 → mvP k (srcP k p) = p := by decide

theorem k8 {k : Nat} (h : k < 8) : k = 0 ∨ k = 1 ∨ k = 2 ∨ k = 3 ∨ k = 4 ∨ k = 5 ∨ k = 6 ∨ k = 7 := by omega

/-- The form that is made of form k by form m. -/
def bhP (k m : Nat) : Nat := ((List.range 8).find? fun j => decide (mvP j 0 = mvP m (mvP k 0)) && decide (mvP j 1 = mvP m (mvP k 1))).getD 0
theorem bhP_lt : ∀ k, k < 8 → ∀ m, m < 8 → bhP k m < 8 := by decide +kernel
theorem srcP_bh : ∀ k, k < 8 → ∀ m, m < 8 → ∀ q, q < 16 → srcP k (srcP m q) = srcP (bhP k m) q := by decide +kernel
def bkP (k : Nat) : Nat := ((List.range 8).find? fun m => decide (bhP k m = 0)).getD 0
theorem bkP_lt : ∀ k, k < 8 → bkP k < 8 := by decide +kernel
theorem bh_bk : ∀ k, k < 8 → bhP k (bkP k) = 0 ∧ bhP (bkP k) k = 0 := by decide +kernel

/-- The board behind n places of a form. -/
def formTo (b : Nat → Int) (k n : Nat) : Nat → Int := fun q => if srcP k q < n then b (srcP k q) else 0
theorem formTo_zero (b : Nat → Int) (k : Nat) : formTo b k 0 = fun _ => 0 := by funext q; simp [formTo]
theorem formTo_full {b : Nat → Int} {k q : Nat} (hk : k < 8) (hq : q < 16) : formTo b k 16 q = formB b k q := by
  simp [formTo, formB, srcP_lt k hk q hq]
theorem formTo_succ {b : Nat → Int} {k n q : Nat} (hk : k < 8) (hn : n < 16) (hq : q < 16) :
    (if q = mvP k n then b n else formTo b k n q) = formTo b k (n + 1) q := by
  by_cases e : q = mvP k n
  · subst e
    simp [formTo, srcP_mvP k hk n hn]
  · rw [if_neg e]
    unfold formTo
    have h : srcP k q ≠ n := fun h => e (by rw [← h, mvP_srcP k hk q hq])
    by_cases h2 : srcP k q < n
    · rw [if_pos h2, if_pos (by omega)]
    · rw [if_neg h2, if_neg (by omega)]

end Go.Proofs.Ytegdnfmhhigjfaa

namespace Go.Proofs.Ytegdnfmhhigjfaa

theorem p16 {n : Nat} (h : n < 16) : n = 0 ∨ n = 1 ∨ n = 2 ∨ n = 3 ∨ n = 4 ∨ n = 5 ∨ n = 6 ∨ n = 7 ∨ n = 8 ∨ n = 9 ∨ n = 10 ∨ n = 11 ∨ n = 12 ∨ n = 13 ∨ n = 14 ∨ n = 15 := by omega

def nz (x : Int) : Int := if x = 0 then 0 else 1
theorem nz_le (x : Int) : 0 ≤ nz x ∧ nz x ≤ 1 := by unfold nz; split <;> omega
def nzR (r : Nat → Int) : Int := nz (r 0) + nz (r 1) + nz (r 2) + nz (r 3)
theorem nzR_tiles (r : Nat → Int) : ((tilesL r).length : Int) = nzR r := by
  by_cases z0 : r 0 = 0 <;> by_cases z1 : r 1 = 0 <;> by_cases z2 : r 2 = 0 <;> by_cases z3 : r 3 = 0 <;> simp [tilesL, nzR, nz, z0, z1, z2, z3]

/-- The places of the empty cells among the first n. -/
def emL (b : Nat → Int) (n : Nat) : List Nat := (List.range n).filter fun p => decide (b p = 0)
theorem emL_succ (b : Nat → Int) (n : Nat) : emL b (n + 1) = if b n = 0 then emL b n ++ [n] else emL b n := by
  unfold emL
  rw [List.range_succ, List.filter_append]
  by_cases h : b n = 0 <;> simp [h]
theorem emL_len (b : Nat → Int) (n : Nat) : (emL b n).length ≤ n := by
  have := List.length_filter_le (fun p => decide (b p = 0)) (List.range n)
  simpa [emL] using this
/-- The number of tiles among the first n cells. -/
def mnB (b : Nat → Int) : Nat → Int
  | 0 => 0
  | n + 1 => mnB b n + nz (b n)
theorem mnB_emL (b : Nat → Int) : ∀ n, mnB b n = n - ((emL b n).length : Int)
  | 0 => rfl
  | n + 1 => by
    rw [mnB, mnB_emL b n, emL_succ, nz]
    split <;> simp <;> omega
theorem mnB_congr {b c : Nat → Int} : ∀ {n : Nat}, (∀ p, p < n → b p = c p) → mnB b n = mnB c n
  | 0, _ => rfl
  | n + 1, h => by rw [mnB, mnB, mnB_congr fun p hp => h p (by omega), h n (by omega)]
theorem mnB_lines (b : Nat → Int) {d : Nat} (hd : d < 4) : mnB b 16 = nzR (lineOf b d 0) + nzR (lineOf b d 1) + nzR (lineOf b d 2) + nzR (lineOf b d 3) := by
  rcases d4 hd with rfl | rfl | rfl | rfl <;> simp [mnB, nzR, lineOf, lineAt] <;> omega

theorem cntM_set {m : Nat → Bool} {i : Nat} (hm : m i = false) : ∀ k, cntM (fun j => if j = i then true else m j) k = cntM m k + if i < k then 1 else 0
  | 0 => by simp [cntM]
  | k + 1 => by
    rw [cntM, cntM, cntM_set hm k]
    by_cases e : k = i
    · subst e; simp [hm]
    · by_cases h : i < k
      · rw [if_pos h, if_pos (by omega : i < k + 1), if_neg e]; omega
      · rw [if_neg h, if_neg (by omega : ¬ i < k + 1), if_neg e]; omega
theorem cntM_zero {m : Nat → Bool} : ∀ k, (∀ j, j < k → m j = false) → cntM m k = 0
  | 0, _ => rfl
  | k + 1, h => by rw [cntM, cntM_zero k fun j hj => h j (by omega), h k (by omega)]; rfl
theorem SR.tiles_mg {l : List Int} (h : ∀ t, t ∈ l → 1 ≤ t ∧ t ≤ 17) (h4 : l.length ≤ 4) : ∀ k, k ≤ l.length → cntM (SR.tiles l k).mg 4 + (SR.tiles l k).n = k
  | 0, _ => by
    show cntM (fun _ => false) 4 + ((0 : Nat) : Int) = ((0 : Nat) : Int)
    rw [cntM_zero 4 fun _ _ => rfl]; omega
  | k + 1, hk => by
    have ih := SR.tiles_mg h h4 k (by omega)
    have ok := SR.ok_tiles h k (by omega)
    rw [SR.tiles_succ (by omega)]
    unfold SR.step
    split
    · rename_i hm
      obtain ⟨a, b, c, d⟩ := SR.mer_true hm
      have := ok.n
      simp only [SR.merged]
      rw [cntM_set d 4, if_pos (by omega)]
      omega
    · simp only [SR.pushed]
      omega
theorem slid_mg {r : Nat → Int} (hr : ∀ i, i < 4 → 0 ≤ r i ∧ r i ≤ 17) : cntM (SR.slid r).mg 4 = nzR r - nzR (SR.slid r).out := by
  have h := SR.tiles_mg (tilesL_pos r hr) (tilesL_len r) _ (Nat.le_refl _)
  rw [← SR.slid_tiles] at h
  rw [← nzR_tiles, ← nzR_tiles, slid_len hr]
  omega
theorem lineOf_slB {b : Nat → Int} {d i k : Nat} (hd : d < 4) (hi : i < 4) (hk : k < 4) : lineOf (slB b d) d i k = (SR.slid (lineOf b d i)).out k := by
  unfold lineOf slB
  rw [lnI_at hd hi hk, lnK_at hd hi hk]; rfl
theorem nzR_slB {b : Nat → Int} {d i : Nat} (hd : d < 4) (hi : i < 4) : nzR (lineOf (slB b d) d i) = nzR (SR.slid (lineOf b d i)).out := by
  simp only [nzR]
  rw [lineOf_slB hd hi (by omega : 0 < 4), lineOf_slB hd hi (by omega : 1 < 4), lineOf_slB hd hi (by omega : 2 < 4), lineOf_slB hd hi (by omega : 3 < 4)]
/-- A slide makes as many mergers as tiles get fewer. -/
theorem mgTo_many {b : Nat → Int} {d : Nat} (hb : In17 b 16) (hd : d < 4) : mgTo b d 4 = mnB b 16 - mnB (slB b d) 16 := by
  rw [mnB_lines b hd, mnB_lines (slB b d) hd]
  rw [nzR_slB hd (by omega : 0 < 4), nzR_slB hd (by omega : 1 < 4), nzR_slB hd (by omega : 2 < 4), nzR_slB hd (by omega : 3 < 4)]
  simp only [mgTo]
  rw [slid_mg (lineOf_in hb (by omega : 0 < 4)), slid_mg (lineOf_in hb (by omega : 1 < 4)), slid_mg (lineOf_in hb (by omega : 2 < 4)), slid_mg (lineOf_in hb (by omega : 3 < 4))]
  omega

/-- Equal pairs side by side in a row. -/
def prT (r : Nat → Int) : Nat → Int
  | 0 => 0
  | k + 1 => prT r k + if r k = r (k + 1) ∧ 1 ≤ r k ∧ r k ≤ 16 then 1 else 0
theorem prT_le (r : Nat → Int) : ∀ k, 0 ≤ prT r k ∧ prT r k ≤ k
  | 0 => ⟨Int.le_refl _, Int.le_refl _⟩
  | k + 1 => by have := prT_le r k; simp only [prT]; split <;> omega
def prL (b : Nat → Int) (d : Nat) : Nat → Int
  | 0 => 0
  | i + 1 => prL b d i + prT (lineOf b d i) 3
theorem prL_le (b : Nat → Int) (d : Nat) : ∀ i, 0 ≤ prL b d i ∧ prL b d i ≤ 3 * i
  | 0 => ⟨Int.le_refl _, Int.le_refl _⟩
  | i + 1 => by have := prL_le b d i; have := prT_le (lineOf b d i) 3; simp only [prL]; omega
/-- The pairs of a board as the reference counts them. -/
def prS (b : Nat → Int) : Nat → Int
  | 0 => 0
  | i + 1 => prS b i + prT (lineOf b 0 i) 3 + prT (lineOf b 1 i) 3
theorem prS_eq (b : Nat → Int) : ∀ i, prS b i = prL b 0 i + prL b 1 i
  | 0 => rfl
  | i + 1 => by rw [prS, prL, prL, prS_eq b i]; omega

/-- The greatest number among the first n cells, and the first place that has it. -/
def hiT (b : Nat → Int) : Nat → Int
  | 0 => 0
  | n + 1 => if hiT b n < b n then b n else hiT b n
def hiP (b : Nat → Int) : Nat → Nat
  | 0 => 0
  | n + 1 => if hiT b n < b n then n else hiP b n
theorem hiT_ge (b : Nat → Int) : ∀ n, 0 ≤ hiT b n ∧ ∀ p, p < n → b p ≤ hiT b n
  | 0 => ⟨Int.le_refl _, fun p hp => absurd hp (Nat.not_lt_zero _)⟩
  | n + 1 => by
    have ih := hiT_ge b n
    refine ⟨?_, fun p hp => ?_⟩
    · simp only [hiT]; split <;> omega
    · by_cases e : p = n
      · subst e; simp only [hiT]; split <;> omega
      · have := ih.2 p (by omega)
        simp only [hiT]; split <;> omega
theorem hiP_lt (b : Nat → Int) : ∀ n, hiP b n < n + 1
  | 0 => by simp [hiP]
  | n + 1 => by have := hiP_lt b n; simp only [hiP]; split <;> omega
theorem hiT_zero {b : Nat → Int} : ∀ n, (∀ p, p < n → b p = 0) → hiT b n = 0 ∧ hiP b n = 0
  | 0, _ => ⟨rfl, rfl⟩
  | n + 1, h => by
    have ih := hiT_zero n fun p hp => h p (by omega)
    have := h n (by omega)
    simp only [hiT, hiP]
    rw [if_neg (by omega), if_neg (by omega)]
    exact ih
theorem hiT_le {b : Nat → Int} : ∀ n, (∀ p, p < n → b p ≤ 17) → hiT b n ≤ 17
  | 0, _ => by simp [hiT]
  | n + 1, h => by
    have := hiT_le n fun p hp => h p (by omega)
    have := h n (by omega)
    simp only [hiT]; split <;> omega

/-- The sum of the worths of the first n cells. -/
def wth (t : Int) : Int := if t = 0 then 0 else wrt t
def smT (b : Nat → Int) : Nat → Int
  | 0 => 0
  | n + 1 => smT b n + wth (b n)
theorem wth_le {t : Int} (h : t ≤ 17) : 0 ≤ wth t ∧ wth t ≤ 262144 := by
  unfold wth; split
  · omega
  · exact wrt_le (by omega)
theorem smT_le {b : Nat → Int} (hb : In17 b 16) : ∀ n, n ≤ 16 → 0 ≤ smT b n ∧ smT b n ≤ 262144 * n
  | 0, _ => ⟨Int.le_refl _, Int.le_refl _⟩
  | n + 1, hn => by
    have := smT_le hb n (by omega)
    have := wth_le (hb n (by omega)).2
    simp only [smT]; omega

/-- How many of the first n cells hold t. -/
def ctT (b : Nat → Int) (n t : Nat) : Int := (((List.range n).filter fun p => decide (b p = t)).length : Int)
theorem ctT_succ (b : Nat → Int) (n t : Nat) : ctT b (n + 1) t = ctT b n t + if b n = t then 1 else 0 := by
  unfold ctT
  rw [List.range_succ, List.filter_append]
  by_cases h : b n = t <;> simp [h]
theorem ctT_le (b : Nat → Int) (n t : Nat) : 0 ≤ ctT b n t ∧ ctT b n t ≤ n := by
  have := List.length_filter_le (fun p => decide (b p = t)) (List.range n)
  simp only [List.length_range] at this
  unfold ctT; omega

/-- The first place in which two boards part. -/
def fpT (a b : Nat → Int) : Nat → Option Nat
  | 0 => none
  | n + 1 => match fpT a b n with | some p => some p | none => if a n = b n then none else some n
theorem fpT_none {a b : Nat → Int} : ∀ {n : Nat}, fpT a b n = none → ∀ p, p < n → a p = b p
  | 0, _, p, hp => absurd hp (Nat.not_lt_zero _)
  | n + 1, h, p, hp => by
    simp only [fpT] at h
    split at h
    · cases h
    · rename_i h0
      split at h
      · rename_i h1
        by_cases e : p = n
        · subst e; exact h1
        · exact fpT_none h0 p (by omega)
      · cases h
theorem fpT_some {a b : Nat → Int} : ∀ {n q : Nat}, fpT a b n = some q → q < n ∧ a q ≠ b q ∧ ∀ p, p < q → a p = b p
  | 0, q, h => by cases h
  | n + 1, q, h => by
    simp only [fpT] at h
    split at h
    · rename_i h0
      cases h
      have := fpT_some h0
      exact ⟨by omega, this.2⟩
    · rename_i h0
      split at h
      · cases h
      · cases h
        exact ⟨by omega, ‹_›, fpT_none h0⟩
/-- -1, 0 or 1: how two boards compare. -/
def cmB (a b : Nat → Int) : Int := match fpT a b 16 with | none => 0 | some q => if a q < b q then -1 else 1
def ltB (a b : Nat → Int) : Bool := match fpT a b 16 with | none => false | some q => decide (a q < b q)
theorem cmB_lt (a b : Nat → Int) : decide (cmB a b < 0) = ltB a b := by
  unfold cmB ltB
  cases fpT a b 16 with
  | none => rfl
  | some q => by_cases h : a q < b q <;> simp [h]

end Go.Proofs.Ytegdnfmhhigjfaa

namespace Go.Proofs.Ytegdnfmhhigjfaa

def eqB (a b : Nat → Int) : Bool := (List.range 16).all fun p => decide (a p = b p)
theorem eqB_true {a b : Nat → Int} : eqB a b = true ↔ ∀ p, p < 16 → a p = b p := by
  unfold eqB
  rw [List.all_eq_true]
  exact ⟨fun h p hp => of_decide_eq_true (h p (List.mem_range.2 hp)), fun h p hp => decide_eq_true (h p (List.mem_range.1 hp))⟩
theorem eqB_refl (a : Nat → Int) : eqB a a = true := eqB_true.2 fun _ _ => rfl
theorem eqB_symm {a b : Nat → Int} (h : eqB a b = true) : eqB b a = true := eqB_true.2 fun p hp => (eqB_true.1 h p hp).symm
theorem eqB_trans {a b c : Nat → Int} (h : eqB a b = true) (k : eqB b c = true) : eqB a c = true := eqB_true.2 fun p hp => (eqB_true.1 h p hp).trans (eqB_true.1 k p hp)
theorem eqB_comm (a b : Nat → Int) : eqB a b = eqB b a := by
  rw [Bool.eq_iff_iff]; exact ⟨eqB_symm, eqB_symm⟩
theorem fpT_eqB {a b : Nat → Int} : fpT a b 16 = none ↔ eqB a b = true := by
  constructor
  · exact fun h => eqB_true.2 (fpT_none h)
  · intro h
    cases e : fpT a b 16 with
    | none => rfl
    | some q => have := fpT_some e; exact absurd (eqB_true.1 h q this.1) this.2.1
theorem ltB_iff {a b : Nat → Int} : ltB a b = true ↔ ∃ q, q < 16 ∧ a q < b q ∧ ∀ p, p < q → a p = b p := by
  unfold ltB
  cases e : fpT a b 16 with
  | none =>
    simp only [Bool.false_eq_true, false_iff]
    rintro ⟨q, h1, h2, _⟩
    have := fpT_none e q h1; omega
  | some r =>
    obtain ⟨r1, r2, r3⟩ := fpT_some e
    simp only [decide_eq_true_eq]
    constructor
    · exact fun h => ⟨r, r1, h, r3⟩
    · rintro ⟨q, q1, q2, q3⟩
      rcases Nat.lt_trichotomy q r with h | h | h
      · have := r3 q h; omega
      · subst h; exact q2
      · exact absurd (q3 r h) r2
theorem ltB_irrefl {a b : Nat → Int} (h : eqB a b = true) : ltB a b = false := by
  cases e : ltB a b with
  | false => rfl
  | true => obtain ⟨q, h1, h2, _⟩ := ltB_iff.1 e; have := eqB_true.1 h q h1; omega
theorem ltB_trans {a b c : Nat → Int} (h : ltB a b = true) (k : ltB b c = true) : ltB a c = true := by
  obtain ⟨q, h1, h2, h3⟩ := ltB_iff.1 h
  obtain ⟨r, k1, k2, k3⟩ := ltB_iff.1 k
  refine ltB_iff.2 ?_
  rcases Nat.lt_trichotomy q r with e | e | e
  · exact ⟨q, h1, by rw [← k3 q e]; exact h2, fun p hp => (h3 p hp).trans (k3 p (by omega))⟩
  · subst e; exact ⟨q, h1, by omega, fun p hp => (h3 p hp).trans (k3 p hp)⟩
  · exact ⟨r, k1, by rw [h3 r e]; exact k2, fun p hp => (h3 p (by omega)).trans (k3 p hp)⟩
theorem ltB_total {a b : Nat → Int} (h : ltB a b = false) (k : ltB b a = false) : eqB a b = true := by
  rw [← fpT_eqB]
  cases e : fpT a b 16 with
  | none => rfl
  | some q =>
    obtain ⟨q1, q2, q3⟩ := fpT_some e
    rcases Int.lt_or_gt_of_ne q2 with e2 | e2
    · have := ltB_iff.2 ⟨q, q1, e2, q3⟩; rw [h] at this; cases this
    · have := ltB_iff.2 ⟨q, q1, e2, fun p hp => (q3 p hp).symm⟩; rw [k] at this; cases this
theorem ltB_congr {a b c d : Nat → Int} (h : eqB a b = true) (k : eqB c d = true) : ltB a c = ltB b d := by
  rw [Bool.eq_iff_iff, ltB_iff, ltB_iff]
  have h := eqB_true.1 h; have k := eqB_true.1 k
  constructor
  · rintro ⟨q, a1, a2, a3⟩
    exact ⟨q, a1, by rw [← h q a1, ← k q a1]; exact a2, fun p hp => by rw [← h p (by omega), ← k p (by omega)]; exact a3 p hp⟩
  · rintro ⟨q, a1, a2, a3⟩
    exact ⟨q, a1, by rw [h q a1, k q a1]; exact a2, fun p hp => by rw [h p (by omega), k p (by omega)]; exact a3 p hp⟩
theorem ltB_asymm {a b : Nat → Int} (h : ltB a b = true) : ltB b a = false := by
  cases e : ltB b a with
  | false => rfl
  | true => have := ltB_trans h e; rw [ltB_irrefl (eqB_refl a)] at this; cases this

theorem formB_zero (b : Nat → Int) : formB b 0 = b := rfl
theorem formB_form {b : Nat → Int} {k m : Nat} (hk : k < 8) (hm : m < 8) : eqB (formB (formB b k) m) (formB b (bhP k m)) = true := by
  refine eqB_true.2 fun p hp => ?_
  show b (srcP k (srcP m p)) = b (srcP (bhP k m) p)
  rw [srcP_bh k hk m hm p hp]
theorem formB_congr {b c : Nat → Int} (h : eqB b c = true) {k : Nat} (hk : k < 8) : eqB (formB b k) (formB c k) = true :=
  eqB_true.2 fun p hp => eqB_true.1 h _ (srcP_lt k hk p hp)
theorem formB_back {b c : Nat → Int} {k : Nat} (hk : k < 8) (h : eqB (formB b k) (formB c k) = true) : eqB b c = true := by
  have h1 := formB_congr h (bkP_lt k hk)
  have h2 := formB_form (b := b) hk (bkP_lt k hk)
  have h3 := formB_form (b := c) hk (bkP_lt k hk)
  rw [(bh_bk k hk).1] at h2 h3
  exact eqB_trans (eqB_symm h2) (eqB_trans h1 h3)

/-- Which forms are the board itself. -/
def smB (b : Nat → Int) (k : Nat) : Bool := eqB (formB b k) b
def symL (b : Nat → Int) (n : Nat) : List Nat := (List.range n).filter fun k => smB b k
theorem symL_succ (b : Nat → Int) (n : Nat) : symL b (n + 1) = if smB b n = true then symL b n ++ [n] else symL b n := by
  unfold symL
  rw [List.range_succ, List.filter_append]
  by_cases h : smB b n = true <;> simp [h]
theorem symL_len (b : Nat → Int) (n : Nat) : (symL b n).length ≤ n := by
  have := List.length_filter_le (fun k => smB b k) (List.range n)
  simpa [symL] using this
theorem smB_mul {b : Nat → Int} {j k : Nat} (hj : j < 8) (hk : k < 8) (h1 : smB b j = true) (h2 : smB b k = true) : smB b (bhP j k) = true :=
  eqB_trans (eqB_symm (formB_form hj hk)) (eqB_trans (formB_congr h1 hk) h2)
theorem smB_same {b : Nat → Int} {j k : Nat} (hj : j < 8) (hk : k < 8) : eqB (formB b j) (formB b k) = smB b (bhP k (bkP j)) := by
  rw [Bool.eq_iff_iff]
  have h2 := formB_form (b := b) hj (bkP_lt j hj)
  have h3 := formB_form (b := b) hk (bkP_lt j hj)
  rw [(bh_bk j hj).1] at h2
  constructor
  · intro h
    exact eqB_trans (eqB_symm h3) (eqB_trans (eqB_symm (formB_congr h (bkP_lt j hj))) h2)
  · intro h
    refine formB_back (bkP_lt j hj) ?_
    exact eqB_trans h2 (eqB_trans (eqB_symm h) (eqB_symm h3))

/-- The numbers of the forms that no form ahead is the same as. -/
def newL (b : Nat → Int) : List Nat := (List.range 8).filter fun k => !((List.range k).any fun j => eqB (formB b j) (formB b k))
def cnt8 (s : Nat → Bool) : Nat := ((List.range 8).filter fun k => s k).length
def new8 (s : Nat → Bool) : Nat := ((List.range 8).filter fun k => !((List.range k).any fun j => s (bhP k (bkP j)))).length
def clo8 (s : Nat → Bool) : Bool := s 0 && (List.range 8).all fun j => (List.range 8).all fun k => !(s j && s k) || s (bhP j k)
def of7 (s1 s2 s3 s4 s5 s6 s7 : Bool) : Nat → Bool := fun k => match k with | 0 => true | 1 => s1 | 2 => s2 | 3 => s3 | 4 => s4 | 5 => s5 | 6 => s6 | _ => s7
theorem clo_cnt : ∀ s1 s2 s3 s4 s5 s6 s7 : Bool, clo8 (of7 s1 s2 s3 s4 s5 s6 s7) = true → new8 (of7 s1 s2 s3 s4 s5 s6 s7) * cnt8 (of7 s1 s2 s3 s4 s5 s6 s7) = 8 := by decide +kernel

theorem filter_cong {α : Type} {p q : α → Bool} : ∀ (l : List α), (∀ x, x ∈ l → p x = q x) → l.filter p = l.filter q
  | [], _ => rfl
  | x :: l, h => by
    rw [List.filter_cons, List.filter_cons, h x (List.mem_cons_self ..), filter_cong l fun y hy => h y (List.mem_cons_of_mem _ hy)]
theorem any_cong {α : Type} {p q : α → Bool} : ∀ (l : List α), (∀ x, x ∈ l → p x = q x) → l.any p = l.any q
  | [], _ => rfl
  | x :: l, h => by
    rw [List.any_cons, List.any_cons, h x (List.mem_cons_self ..), any_cong l fun y hy => h y (List.mem_cons_of_mem _ hy)]
theorem of7_eq (s : Nat → Bool) (h0 : s 0 = true) : ∀ k, k < 8 → s k = of7 (s 1) (s 2) (s 3) (s 4) (s 5) (s 6) (s 7) k := by
  intro k hk
  rcases k8 hk with rfl | rfl | rfl | rfl | rfl | rfl | rfl | rfl
  · exact h0
  all_goals rfl
theorem bhP8 {j k : Nat} (hj : j < 8) (hk : k < 8) : bhP k (bkP j) < 8 := bhP_lt k hk _ (bkP_lt j hj)
/-- The forms that differ and the symmetries make 8. -/
theorem new_sym (b : Nat → Int) : (newL b).length * (symL b 8).length = 8 := by
  have h0 : smB b 0 = true := eqB_refl b
  have e := of7_eq (smB b) h0
  have h := clo_cnt (smB b 1) (smB b 2) (smB b 3) (smB b 4) (smB b 5) (smB b 6) (smB b 7) (by
    unfold clo8
    rw [← e 0 (by omega), h0, Bool.true_and, List.all_eq_true]
    intro j hj
    rw [List.all_eq_true]
    intro k hk
    have hj := List.mem_range.1 hj; have hk := List.mem_range.1 hk
    rw [← e j hj, ← e k hk, ← e _ (bhP_lt j hj k hk)]
    cases h1 : smB b j <;> cases h2 : smB b k <;> simp
    exact smB_mul hj hk h1 h2)
  have e1 : symL b 8 = (List.range 8).filter fun k => of7 (smB b 1) (smB b 2) (smB b 3) (smB b 4) (smB b 5) (smB b 6) (smB b 7) k :=
    filter_cong _ fun k hk => e k (List.mem_range.1 hk)
  have e2 : newL b = (List.range 8).filter fun k => !((List.range k).any fun j => of7 (smB b 1) (smB b 2) (smB b 3) (smB b 4) (smB b 5) (smB b 6) (smB b 7) (bhP k (bkP j))) := by
    refine filter_cong _ fun k hk => ?_
    have hk := List.mem_range.1 hk
    congr 1
    refine any_cong _ fun j hj => ?_
    have hj := List.mem_range.1 hj
    rw [smB_same (by omega) hk, e _ (bhP8 (by omega) hk)]
  rw [e1, e2]
  exact h

/-- The number of the first form among the first n. -/
def ffK (b : Nat → Int) : Nat → Nat
  | 0 => 0
  | n + 1 => if ltB (formB b n) (formB b (ffK b n)) = true then n else ffK b n
theorem ffK_lt (b : Nat → Int) : ∀ n, ffK b n < n + 1
  | 0 => by simp [ffK]
  | n + 1 => by have := ffK_lt b n; simp only [ffK]; split <;> omega
theorem ffK_one (b : Nat → Int) : ffK b 1 = 0 := by simp only [ffK]; exact ite_self _
theorem ffK_le (b : Nat → Int) : ∀ n k, k < n → ltB (formB b k) (formB b (ffK b n)) = false
  | 0, _, h => absurd h (Nat.not_lt_zero _)
  | n + 1, k, h => by
    simp only [ffK]
    by_cases e : k = n
    · subst e
      split
      · exact ltB_irrefl (eqB_refl _)
      · rename_i h2; simpa using h2
    · have ih := ffK_le b n k (by omega)
      split
      · rename_i h2
        cases h3 : ltB (formB b k) (formB b n) with
        | false => rfl
        | true => rw [ltB_trans h3 h2] at ih; cases ih
      · exact ih

end Go.Proofs.Ytegdnfmhhigjfaa
