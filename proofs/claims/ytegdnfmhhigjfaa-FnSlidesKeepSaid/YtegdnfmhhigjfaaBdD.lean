/-
  Contract: the draw of a board.
-/
import Derived.Test.YtegdnfmhhigjfaaQBase
import Derived.Test.YtegdnfmhhigjfaaSlide
import Derived.Test.YtegdnfmhhigjfaaQTiles
import Derived.Test.YtegdnfmhhigjfaaQEqlB
namespace Go.Proofs.Ytegdnfmhhigjfaa
open Go.RowKit

theorem wp_store_one {P : Program} {op : Oper} {a : Act} {w : World} {K : Act → World → Prop} {Q : Exit → Act → World → Prop} (ty : TypeId) (hi : (P.info? ty).map (·.size) = some 1) (x y : Operand) (ho : op.op = .store ty x y)
    (b o : Nat) (v : Value) (hx : a.eval x = .pointer (some ⟨b, o, none⟩)) (hy : a.eval y = v) (h1 : v.oneCell' = true) (hd : op.dst = none) {n : Nat} {c : Nat → Value} (hH : Has w b n c) (hle : o < n)
    (h : ∀ w2, Only b w w2 → Has w2 b n (fun j => if j = o then v else c j) → K a w2) : op.wp P a w K Q := by
  have hst := run_storeCells_cells (P := P) b o [v] 0 w (fun j hj => by simp at hj; subst hj; rw [hH.1 _ (by omega)]; rfl) (fun j _ => hH.2.1 _) (fun u hu => by simp at hu; subst hu; exact h1)
  have hvc : v.cells = #[v] := by cases v <;> first | rfl | simp [Value.oneCell'] at h1
  cases hq : P.info? ty with
  | none => simp [hq] at hi
  | some i =>
    have hs : i.size = 1 := by simpa [hq] using hi
    have hr : (Instr.storeAt ty (.pointer (some ⟨b, o, none⟩)) v).run P w = .ok () (w.setCell ⟨b, o, none⟩ v) := by
      simp only [Nat.add_zero] at hst
      simp [Instr.storeAt, Instr.sureAddr, storeVar, sizeOf, typeInfo, hq, hs, hvc, hst, World.setCells]
    unfold Oper.wp execOp
    simp only [ho, hx, hy, Sem.run_bind, hr]
    have hK : K (a.put op.dst undef) (w.setCell ⟨b, o, none⟩ v) := by
      rw [hd]
      exact h _ (only_setCell _ _ _ _) hH.set
    exact hK

def BI (f : Nat → Int) : Prop := ∀ i, i < 16 → -9223372036854775808 ≤ f i ∧ f i ≤ 9223372036854775807
theorem BI_put {f : Nat → Int} {q : Nat} {t : Int} (h : BI f) (ht : -9223372036854775808 ≤ t ∧ t ≤ 9223372036854775807) : BI (fun j => if j = q then t else f j) := fun i hi => by
  dsimp only
  split
  · exact ht
  · exact h i hi
theorem lst_in {L : List Int} {t : Int} (ht : t ∈ L) (h : ∀ u, u ∈ L → -9223372036854775808 ≤ u ∧ u ≤ 9223372036854775807) : -9223372036854775808 ≤ t ∧ t ≤ 9223372036854775807 := h t ht
theorem wrap_i64 (z : Int) : -9223372036854775808 ≤ IntKind.i64.wrap z ∧ IntKind.i64.wrap z ≤ 9223372036854775807 := by
  have h1 : ∀ m : Int, 0 ≤ m → m < 18446744073709551616 → -9223372036854775808 ≤ (if m ≥ 9223372036854775808 then m - 18446744073709551616 else m) ∧ (if m ≥ 9223372036854775808 then m - 18446744073709551616 else m) ≤ 9223372036854775807 := by
    intro m h0 h1
    split <;> omega
  have e : IntKind.i64.wrap z = if z % 18446744073709551616 ≥ 9223372036854775808 then z % 18446744073709551616 - 18446744073709551616 else z % 18446744073709551616 := by
    simp [IntKind.wrap, IntKind.bits, IntKind.signed]
  rw [e]
  exact h1 _ (Int.emod_nonneg _ (by decide)) (Int.emod_lt_of_pos _ (by decide))

theorem among_own {C : Nat} {A : Option Addr} {n cp m : Nat} {x : Nat → Nat} (L : List Int) (hn : n ≤ 65536) (hm : m ≤ 1000000) (hk : 2 ≤ L.length) (hk2 : L.length ≤ 200) {w : World} (h : Rd w C A n cp m x) {g : Nat} (hg : Has w g L.length (fun o => .int .i64 (L.getD o 0))) (hgC : some C ≠ some g) (k : Nat) (hkL : k = L.length) :
    Calls Try.prog 96 #[.pointer (some ⟨C, 0, none⟩), .slice (some ⟨g, 0, none⟩) k k] w fun e w' => ∃ t, t ∈ L ∧ e = .returned (.int .i64 t) ∧ Rd w' C A n cp (m + 1) x ∧ w.grownBy w' (some C) := by
  subst hkL
  refine (among_any C A n cp m L.length g L.length (fun o => L.getD o 0) x hn hm hk hk2 w h.1 h.2.1 h.2.2 hg (fun e => hgC (by rw [e]))).mono ?_
  rintro e w' ⟨i, rfl, hi, hC2, hG⟩
  exact ⟨L.getD i 0, by simp [List.getD, hi], rfl, h.next hG hC2, hG⟩

/-- A board while it is drawn: the reader, the block of the result, the block of the board. -/
structure BSt (W : World) (C : Nat) (A : Option Addr) (n cp : Nat) (x : Nat → Nat) (B2 B3 : Nat) (w : World) (m : Nat) (f : Nat → Int) : Prop where
  rd : Rd w C A n cp m x
  gr : W.grownBy w (some C)
  i2 : Has w B2 16 (fun _ => .int .i64 0)
  i3 : Has w B3 16 (fun o => .int .i64 (f o))
  n2 : B2 ≠ C
  n3 : B3 ≠ C
  n23 : B2 ≠ B3
  l2 : W.heap.size ≤ B2
  l3 : W.heap.size ≤ B3
  ab : ∀ b off, 0 < n → A = some ⟨b, off, none⟩ → b < W.heap.size
theorem gr_fr {w a b : World} {B : Nat} {q : Option Nat} (h : w.grownBy a q) (ho : Only B a b) (hB : w.heap.size ≤ B) : w.grownBy b q := by
  refine ⟨ho.os.trans h.os, ho.tape.trans h.tape, ho.output.trans h.output, Nat.le_trans h.size (Nat.le_of_eq ho.size.symm), fun k hk hne => ?_⟩
  rw [ho.block k (by omega), h.block k hk hne]
section
variable {W w w2 w3 : World} {C : Nat} {A : Option Addr} {n cp m : Nat} {x : Nat → Nat} {B2 B3 : Nat} {f : Nat → Int}
theorem BSt.call {m' : Nat} (h : BSt W C A n cp x B2 B3 w m f) (hR : Rd w2 C A n cp m' x) (hG : w.grownBy w2 (some C)) : BSt W C A n cp x B2 B3 w2 m' f :=
  { h with rd := hR, gr := gr_trans h.gr hG, i2 := h.i2.grown hG (fun e => h.n2 (Option.some.inj e).symm), i3 := h.i3.grown hG (fun e => h.n3 (Option.some.inj e).symm) }
theorem Rd.drewN {k : Nat} (h : Rd w C A n cp m x) : Rd (w.drewN k) C A n cp m x := by
  obtain ⟨a, s, h1, h2, hH⟩ := h.2.2
  exact ⟨h.1.grown (gr_drewN none k) (fun _ _ _ _ => by simp), h.2.1, a, s, h1, h2, Has.drewN hH k⟩
theorem BSt.draw (h : BSt W C A n cp x B2 B3 w m f) : BSt W C A n cp x B2 B3 w.drew m f := by
  have hR : Rd w.drew C A n cp m x := by
    obtain ⟨a, s, h1, h2, hH⟩ := h.rd.2.2
    exact ⟨h.rd.1.grown (gr_drew none) (fun _ _ _ _ => by simp), h.rd.2.1, a, s, h1, h2, Has.drew hH⟩
  exact h.call hR (gr_drew _)
theorem BSt.at {o : Obj} (h : BSt W C A n cp x B2 B3 w m f) (hW : w.alloc o = w2) : BSt W C A n cp x B2 B3 w2 m f := by
  subst hW
  exact h.call (h.rd.call (below_new (Below.refl _ _) o)) (gr_new _ o)
theorem BSt.putF {g : Nat → Int} (h : BSt W C A n cp x B2 B3 w m f) (ho : Only B3 w w3) (hn : Has w3 B3 16 (fun o => .int .i64 (g o))) : BSt W C A n cp x B2 B3 w3 m g :=
  { h with rd := h.rd.only ho h.n3 (fun b off h0 e => by have := h.ab b off h0 e; have := h.l3; omega), gr := gr_fr h.gr ho h.l3, i2 := h.i2.only ho h.n23, i3 := hn }
theorem BSt.put {q : Nat} {t : Int} (h : BSt W C A n cp x B2 B3 w m f) (ho : Only B3 w w3) (hn : Has w3 B3 16 (fun j => if j = q then .int .i64 t else .int .i64 (f j))) : BSt W C A n cp x B2 B3 w3 m (fun j => if j = q then t else f j) :=
  h.putF ho (hn.congr fun _ _ => ite_int _ _ _)
theorem BSt.put' {q : Nat} {t : Int} (h : BSt W C A n cp x B2 B3 w m f) (hb : BI f) (ho : Only B3 w w3) (hn : Has w3 B3 16 (fun j => if j = q then .int .i64 t else .int .i64 (f j))) (ht : -9223372036854775808 ≤ t ∧ t ≤ 9223372036854775807) : ∃ g, Hid (BI g) ∧ BSt W C A n cp x B2 B3 w3 m g :=
  ⟨_, hide (BI_put hb ht), h.put ho hn⟩
theorem BSt.row {q : Nat} {t0 t1 t2 t3 : Int} (h : BSt W C A n cp x B2 B3 w m f) (hb : BI f) (ho : Only B3 w w3) (hn : Has w3 B3 16 (fun j => if j = q then .int .i64 t0 else if j = q + 1 then .int .i64 t1 else if j = q + 2 then .int .i64 t2 else if j = q + 3 then .int .i64 t3 else .int .i64 (f j)))
    (h0 : -9223372036854775808 ≤ t0 ∧ t0 ≤ 9223372036854775807) (h1 : -9223372036854775808 ≤ t1 ∧ t1 ≤ 9223372036854775807) (h2 : -9223372036854775808 ≤ t2 ∧ t2 ≤ 9223372036854775807) (h3 : -9223372036854775808 ≤ t3 ∧ t3 ≤ 9223372036854775807) : ∃ g, Hid (BI g) ∧ BSt W C A n cp x B2 B3 w3 m g := by
  refine ⟨fun j => if j = q then t0 else if j = q + 1 then t1 else if j = q + 2 then t2 else if j = q + 3 then t3 else f j, hide (fun i hi => ?_), h.putF ho (hn.congr fun o _ => ?_)⟩
  · dsimp only
    by_cases e0 : i = q
    · rw [if_pos e0]; exact h0
    · rw [if_neg e0]
      by_cases e1 : i = q + 1
      · rw [if_pos e1]; exact h1
      · rw [if_neg e1]
        by_cases e2 : i = q + 2
        · rw [if_pos e2]; exact h2
        · rw [if_neg e2]
          by_cases e3 : i = q + 3
          · rw [if_pos e3]; exact h3
          · rw [if_neg e3]; exact hb i hi
  · by_cases e0 : o = q
    · rw [if_pos e0, if_pos e0]
    · rw [if_neg e0, if_neg e0]
      by_cases e1 : o = q + 1
      · rw [if_pos e1, if_pos e1]
      · rw [if_neg e1, if_neg e1]
        by_cases e2 : o = q + 2
        · rw [if_pos e2, if_pos e2]
        · rw [if_neg e2, if_neg e2]
          by_cases e3 : o = q + 3
          · rw [if_pos e3, if_pos e3]
          · rw [if_neg e3, if_neg e3]
theorem BSt.mono {m' : Nat} (h : BSt W C A n cp x B2 B3 w m f) (hm : m ≤ m') : BSt W C A n cp x B2 B3 w m' f := { h with rd := h.rd.mono hm }
theorem BSt.last (h : BSt W C A n cp x B2 B3 w m f) (ho : Only B2 w w3) : Rd w3 C A n cp m x ∧ W.grownBy w3 (some C) :=
  ⟨h.rd.only ho h.n2 (fun b off h0 e => by have := h.ab b off h0 e; have := h.l2; omega), gr_fr h.gr ho h.l2⟩
/-- The board's block has just been laid. -/
theorem BSt.start {ob : Obj} {g : Nat → Int} (hR : Rd w C A n cp m x) (hG : W.grownBy w (some C)) (i2 : Has w B2 16 (fun _ => .int .i64 0)) (n2 : B2 ≠ C) (l2 : W.heap.size ≤ B2) (ab : ∀ b off, 0 < n → A = some ⟨b, off, none⟩ → b < W.heap.size)
    (ho : Only w.heap.size (w.alloc ob) w3) (hn : Has w3 w.heap.size 16 (fun o => .int .i64 (g o))) : BSt W C A n cp x B2 w.heap.size w3 m g := by
  have hb : Below w.heap.size w (w.alloc ob) := below_new (Below.refl _ _) ob
  have hl := hR.lt
  have hs := hG.size
  have h2 := i2.2.2
  refine ⟨(hR.call hb).only ho (by omega) (fun b off h0 e => by have := ab b off h0 e; omega), gr_fr (gr_trans hG (gr_below _ hb)) ho hs, (i2.alloc ob).only ho (by omega), hn, n2, by omega, by omega, l2, hs, ab⟩
end

set_option maxHeartbeats 8000000 in
set_option maxRecDepth 100000 in
theorem board_rd {C : Nat} {A : Option Addr} {n cp m : Nat} {x : Nat → Nat} (hn : n ≤ 65536) (hm : m ≤ 800000) {w : World} (h : Rd w C A n cp m x) :
    Calls Try.prog 79 #[.pointer (some ⟨C, 0, none⟩)] w fun e w' => ∃ b : Nat → Int, e = .returned (.agg #[.int .i64 (b 0), .int .i64 (b 1), .int .i64 (b 2), .int .i64 (b 3), .int .i64 (b 4), .int .i64 (b 5), .int .i64 (b 6), .int .i64 (b 7), .int .i64 (b 8), .int .i64 (b 9), .int .i64 (b 10), .int .i64 (b 11), .int .i64 (b 12), .int .i64 (b 13), .int .i64 (b 14), .int .i64 (b 15)]) ∧ BI b ∧ Rd w' C A n cp (m + 80) x ∧ w.grownBy w' (some C) := by
  have hCl := h.lt
  have HAB : Hid (∀ b off, 0 < n → A = some ⟨b, off, none⟩ → b < w.heap.size) := hide (fun b off h0 e => by
    obtain ⟨b', off', e', hlt, _⟩ := h.1 h0
    rw [e'] at e
    cases e
    exact hlt)
  have HR := hide h
  clear h
  go_enter Try.func79, Try.ntmps79
  go_upto_region 1 with (fail)
  generalize hW : World.alloc w _ = w1
  have hb : Below w.heap.size w w1 := by (rw [← hW]; exact below_new (Below.refl _ _) _)
  have hR := HR.out.call hb
  have hG : w.grownBy w1 (some C) := gr_below _ hb
  have i2 : Has w1 w.heap.size 16 (fun _ => .int .i64 0) := by
    rw [← hW]
    exact (Has.new' (n := 16) rfl).congr fun o ho => lit16' (fun _ => 0) o ho
  have hCn2 : w.heap.size ≠ C := by omega
  clear hW hb HR
  have hR0 := hR; clear hR
  go_upto_region 2 with (first | ((go_at_call 94); (refine (one_rd 4 hn (by omega) (by decide) (by decide) hR1).mono ?_); rintro e w2 ⟨full, rfl, hR, hG2⟩; have i2' := i2.grown hG2 (fun he => hCn2 (Option.some.inj he).symm); have hG3 := gr_trans hG hG2; clear hR1 hG i2 hG2; have hG := hG3; have i2 := i2'; clear hG3 i2') | ((go_at_call 94); (refine (one_rd 4 hn (by omega) (by decide) (by decide) hR0).mono ?_); rintro e w2 ⟨few, rfl, hR1, hG2⟩; have i2' := i2.grown hG2 (fun he => hCn2 (Option.some.inj he).symm); have hG3 := gr_trans hG hG2; clear hR0 hG i2 hG2; have hG := hG3; have i2 := i2'; clear hG3 i2') | (refine store_BoardF rfl _ _ rfl _ (fun _ => 0) rfl rfl (Has.new' (n := 16) rfl) ?_; intro w3 ho3 hn3))
  have hT := BSt.start hR hG i2 hCn2 (Nat.le_refl _) HAB.out ho3 hn3
  clear hR hG i2 ho3 hn3 HAB
  generalize hB3 : w2.heap.size = B3 at *
  clear hB3
  go_wp2_with fail
  go_loopw [6] (fun v wr => ∃ (r : Nat) (f : Nat → Int), r ≤ 4 ∧ v = .int .i64 r ∧ Hid (∀ i, 0 ≤ f i ∧ f i ≤ 5) ∧ BSt w C A n cp x w.heap.size B3 wr (m + 2 + 12 * r) f) (fun v _ => 4 - (intOf v).toNat)
  case atStart => exact ⟨0, fun _ => 0, by omega, rfl, hide (fun _ => ⟨by simp, by simp⟩), hT⟩
  case round =>
    clear hT
    obtain ⟨r, f, hr, rfl, hf, hT⟩ := hrel
    by_cases h4 : r = 4
    · subst h4
      have HBI : Hid (BI f) := hide (fun i _ => by have := hf.out i; omega)
      clear hf
      go_upto_region 15 with (first | ((go_at_call 95); (refine (pick_rd 40 hn (by omega) (by decide) (by decide) hT.rd).mono ?_); rintro e w2 ⟨v, rfl, hv, hR2, hG2⟩; have hT' := hT.call hR2 hG2; clear hT hR2 hG2; have hT := hT'; clear hT'))
      rcases (by omega : v = 0 ∨ v = 1 ∨ v = 2 ∨ v = 3 ∨ v = 4 ∨ 5 ≤ v) with rfl | rfl | rfl | rfl | rfl | h5
      · go_upto_region 16 with (fail)
        refine wp_region_noPanic ?_
        refine wp_region_held_drew (S := fun _ => True) (by kernel_rfl) ?hS1 (fun hHeld => ?_)
        case hS1 => exact trivial
        have hT' := hT.draw; clear hT; have hT := hT'; clear hT'
        generalize hWW : World.drew _ = wx at *; clear hWW
        refine take_d (i := 0) (some 52) (v := ?_) rfl rfl (by kernel_rfl) (by kernel_rfl) (by kernel_rfl) (fun _ _ _ h => h) (Or.inl ⟨by rfl, ?_⟩) (by assumption) ?_
        rotate_left; (intro w hSw; clear hSw; go_simp; try with_reducible rfl)
        all_goals (try simp only [Act.put, List.setIfInBounds_toArray, List.set_cons_zero, List.set_cons_succ])
        refine take_d (i := 2) (some 54) (v := ?_) rfl rfl (by kernel_rfl) (by kernel_rfl) (by kernel_rfl) (fun _ _ _ h => h) (Or.inl ⟨by rfl, ?_⟩) (by assumption) ?_
        rotate_left; (intro w hSw; clear hSw; go_simp; try with_reducible rfl)
        all_goals (try simp only [Act.put, List.setIfInBounds_toArray, List.set_cons_zero, List.set_cons_succ])
        refine take_d (i := 4) (some 56) (v := ?_) rfl rfl (by kernel_rfl) (by kernel_rfl) (by kernel_rfl) (fun _ _ _ h => h) (Or.inl ⟨by rfl, ?_⟩) (by assumption) ?_
        rotate_left; (intro w hSw; clear hSw; go_simp; try with_reducible rfl)
        all_goals (try simp only [Act.put, List.setIfInBounds_toArray, List.set_cons_zero, List.set_cons_succ])
        refine take_d (i := 7) (some 59) (v := ?_) rfl rfl (by kernel_rfl) (by kernel_rfl) (by kernel_rfl) (fun _ _ _ h => h) (Or.inl ⟨by rfl, ?_⟩) (by assumption) ?_
        rotate_left; (intro w hSw; clear hSw; go_simp; try with_reducible rfl)
        all_goals (try simp only [Act.put, List.setIfInBounds_toArray, List.set_cons_zero, List.set_cons_succ])
        refine wpAnyH_ready (rs := [1, 5]) (by kernel_rfl) (by simp) ?_
        refine AllReadyH.cons (o := _) rfl (fun K hK => ?_) ?_
        ·
          go_simp
          refine (pick_rd 4 hn (by omega) (by decide) (by decide) hT.rd).mono ?_
          rintro e w2 ⟨v1, rfl, hv1, hR2, hG2⟩; have b1 : (0 : Int) ≤ v1 := (by omega); have c1 : (v1 : Int) < 4 := (by omega)
          (try go_wp2_with fail)
          have hT' := hT.call hR2 hG2; clear hT hR2 hG2; have hT := hT'; clear hT'
          generalize hWW : w2 = wx at *; clear hWW
          refine hK.out _ _ ?hS2 (fun hHeld => ?_)
          case hS2 => exact trivial
          clear hK K
          (try simp only [Act.put, List.setIfInBounds_toArray, List.set_cons_zero, List.set_cons_succ])
          refine take_d (i := 8) (some 60) (v := ?_) rfl rfl (by kernel_rfl) (by kernel_rfl) (by kernel_rfl) (fun _ _ _ h => h) (Or.inl ⟨by rfl, ?_⟩) (by assumption) ?_
          rotate_left; (intro w hSw; clear hSw; go_simp; try with_reducible rfl)
          all_goals (try simp only [Act.put, List.setIfInBounds_toArray, List.set_cons_zero, List.set_cons_succ])
          refine wpAnyH_ready (rs := [3, 5]) (by kernel_rfl) (by simp) ?_
          refine AllReadyH.cons (o := _) rfl (fun K hK => ?_) ?_
          ·
            go_simp
            refine (pick_rd 4 hn (by omega) (by decide) (by decide) hT.rd).mono ?_
            rintro e w2 ⟨v2, rfl, hv2, hR2, hG2⟩; have b2 : (0 : Int) ≤ v2 := (by omega); have c2 : (v2 : Int) < 4 := (by omega)
            (try go_wp2_with fail)
            have hT' := hT.call hR2 hG2; clear hT hR2 hG2; have hT := hT'; clear hT'
            generalize hWW : w2 = wx at *; clear hWW
            refine hK.out _ _ ?hS3 (fun hHeld => ?_)
            case hS3 => exact trivial
            clear hK K
            (try simp only [Act.put, List.setIfInBounds_toArray, List.set_cons_zero, List.set_cons_succ])
            refine wpAnyH_ready (rs := [5]) (by kernel_rfl) (by simp) ?_
            refine AllReadyH.cons (o := _) rfl (fun K hK => ?_) ?_
            ·
              go_simp
              generalize hW : World.alloc _ _ = w2
              have jn := (Has.newat (n := 3) hW rfl).congr (d := fun o => .int .i64 (([-1, 18, 4611686018427387904] : List Int).getD o 0)) (fun o ho => by rcases (by omega : o = 0 ∨ o = 1 ∨ o = 2) with rfl | rfl | rfl <;> rfl)
              have hjC : some C ≠ some wx.heap.size := fun h => by have h1 := Option.some.inj h; have h2 := hT.rd.lt; omega
              have hT' := hT.at hW; clear hT hW; have hT := hT'; clear hT'
              generalize hSZ : (World.heap wx).size = Bn at *; clear hSZ
              generalize hWW : w2 = wx at *; clear hWW
              refine hK.out _ _ ?hS4 (fun hHeld => ?_)
              case hS4 => exact trivial
              clear hK K
              (try simp only [Act.put, List.setIfInBounds_toArray, List.set_cons_zero, List.set_cons_succ])
              refine wpAnyH_ready (rs := [6]) (by kernel_rfl) (by simp) ?_
              refine AllReadyH.cons (o := _) rfl (fun K hK => ?_) ?_
              ·
                go_simp
                refine (among_own [-1, 18, 4611686018427387904] hn (by omega) (by decide) (by decide) hT.rd jn hjC _ rfl).mono ?_
                rintro e w2 ⟨t, ht, rfl, hR2, hG2⟩
                (try go_wp2_with fail)
                have hT' := hT.call hR2 hG2; clear hT hR2 hG2; have hT := hT'; clear hT'
                generalize hWW : w2 = wx at *; clear hWW
                refine hK.out _ _ ?hS5 (fun hHeld => ?_)
                case hS5 => exact trivial
                clear hK K
                (try simp only [Act.put, List.setIfInBounds_toArray, List.set_cons_zero, List.set_cons_succ])
                refine take_d (i := 9) (some 61) (v := ?_) rfl rfl (by kernel_rfl) (by kernel_rfl) (by kernel_rfl) (fun _ _ _ h => h) (Or.inl ⟨by rfl, ?_⟩) (by assumption) ?_
                rotate_left; (intro w hSw; clear hSw; go_simp; try with_reducible rfl)
                all_goals (try simp only [Act.put, List.setIfInBounds_toArray, List.set_cons_zero, List.set_cons_succ])
                refine wpAnyH_ready (rs := [10]) (by kernel_rfl) (by simp) ?_
                refine AllReadyH.cons (o := _) rfl (fun K hK => ?_) ?_
                ·
                  rw [if_pos (by rfl)]
                  refine wp_store_one 3 info_int _ _ rfl _ _ _ rfl rfl rfl rfl hT.i3 (by omega) ?_
                  intro w3 ho3 hn3
                  obtain ⟨g, HBG, hT'⟩ := hT.put' HBI.out ho3 hn3 (by first | exact lst_in ht (by decide) | exact wrap_i64 _ | omega); clear hT ho3 hn3; have hT := hT'; clear hT'
                  generalize hWW : w3 = wx at *; clear hWW
                  refine hK.out _ _ ?hS6 (fun hHeld => ?_)
                  case hS6 => exact trivial
                  clear hK K
                  (try simp only [Act.put, List.setIfInBounds_toArray, List.set_cons_zero, List.set_cons_succ])
                  refine wpAnyH_done (by kernel_rfl) ?_ _
                  (try refine NoPanic.normal ?_)
                  have HRX := hide HBG.out
                  go_wp2_with (first | (refine load_Board rfl _ rfl _ _ rfl hT.i3 (by omega) ?_) | (refine store_BoardF rfl _ _ rfl _ _ rfl rfl hT.i2 ?_; intro w9 ho9 hn9))
                  exact bodyPost_ret (results_cell rfl rfl (loadVar_Board hn9 (by omega))) rfl ⟨_, rfl, HRX.out, (hT.last ho9).1.mono (by omega), (hT.last ho9).2⟩
                exact AllReadyH.nil
              exact AllReadyH.nil
            exact AllReadyH.nil
          refine AllReadyH.cons (o := _) rfl (fun K hK => ?_) ?_
          ·
            go_simp
            generalize hW : World.alloc _ _ = w2
            have jn := (Has.newat (n := 3) hW rfl).congr (d := fun o => .int .i64 (([-1, 18, 4611686018427387904] : List Int).getD o 0)) (fun o ho => by rcases (by omega : o = 0 ∨ o = 1 ∨ o = 2) with rfl | rfl | rfl <;> rfl)
            have hjC : some C ≠ some wx.heap.size := fun h => by have h1 := Option.some.inj h; have h2 := hT.rd.lt; omega
            have hT' := hT.at hW; clear hT hW; have hT := hT'; clear hT'
            generalize hSZ : (World.heap wx).size = Bn at *; clear hSZ
            generalize hWW : w2 = wx at *; clear hWW
            refine hK.out _ _ ?hS7 (fun hHeld => ?_)
            case hS7 => exact trivial
            clear hK K
            (try simp only [Act.put, List.setIfInBounds_toArray, List.set_cons_zero, List.set_cons_succ])
            refine wpAnyH_ready (rs := [3]) (by kernel_rfl) (by simp) ?_
            refine AllReadyH.cons (o := _) rfl (fun K hK => ?_) ?_
            ·
              go_simp
              refine (pick_rd 4 hn (by omega) (by decide) (by decide) hT.rd).mono ?_
              rintro e w2 ⟨v2, rfl, hv2, hR2, hG2⟩; have b2 : (0 : Int) ≤ v2 := (by omega); have c2 : (v2 : Int) < 4 := (by omega)
              (try go_wp2_with fail)
              have jn' := jn.grown hG2 hjC; clear jn; have jn := jn'; clear jn'
              have hT' := hT.call hR2 hG2; clear hT hR2 hG2; have hT := hT'; clear hT'
              generalize hWW : w2 = wx at *; clear hWW
              refine hK.out _ _ ?hS8 (fun hHeld => ?_)
              case hS8 => exact trivial
              clear hK K
              (try simp only [Act.put, List.setIfInBounds_toArray, List.set_cons_zero, List.set_cons_succ])
              refine wpAnyH_ready (rs := [6]) (by kernel_rfl) (by simp) ?_
              refine AllReadyH.cons (o := _) rfl (fun K hK => ?_) ?_
              ·
                go_simp
                refine (among_own [-1, 18, 4611686018427387904] hn (by omega) (by decide) (by decide) hT.rd jn hjC _ rfl).mono ?_
                rintro e w2 ⟨t, ht, rfl, hR2, hG2⟩
                (try go_wp2_with fail)
                have hT' := hT.call hR2 hG2; clear hT hR2 hG2; have hT := hT'; clear hT'
                generalize hWW : w2 = wx at *; clear hWW
                refine hK.out _ _ ?hS9 (fun hHeld => ?_)
                case hS9 => exact trivial
                clear hK K
                (try simp only [Act.put, List.setIfInBounds_toArray, List.set_cons_zero, List.set_cons_succ])
                refine take_d (i := 9) (some 61) (v := ?_) rfl rfl (by kernel_rfl) (by kernel_rfl) (by kernel_rfl) (fun _ _ _ h => h) (Or.inl ⟨by rfl, ?_⟩) (by assumption) ?_
                rotate_left; (intro w hSw; clear hSw; go_simp; try with_reducible rfl)
                all_goals (try simp only [Act.put, List.setIfInBounds_toArray, List.set_cons_zero, List.set_cons_succ])
                refine wpAnyH_ready (rs := [10]) (by kernel_rfl) (by simp) ?_
                refine AllReadyH.cons (o := _) rfl (fun K hK => ?_) ?_
                ·
                  rw [if_pos (by rfl)]
                  refine wp_store_one 3 info_int _ _ rfl _ _ _ rfl rfl rfl rfl hT.i3 (by omega) ?_
                  intro w3 ho3 hn3
                  obtain ⟨g, HBG, hT'⟩ := hT.put' HBI.out ho3 hn3 (by first | exact lst_in ht (by decide) | exact wrap_i64 _ | omega); clear hT ho3 hn3; have hT := hT'; clear hT'
                  generalize hWW : w3 = wx at *; clear hWW
                  refine hK.out _ _ ?hS10 (fun hHeld => ?_)
                  case hS10 => exact trivial
                  clear hK K
                  (try simp only [Act.put, List.setIfInBounds_toArray, List.set_cons_zero, List.set_cons_succ])
                  refine wpAnyH_done (by kernel_rfl) ?_ _
                  (try refine NoPanic.normal ?_)
                  have HRX := hide HBG.out
                  go_wp2_with (first | (refine load_Board rfl _ rfl _ _ rfl hT.i3 (by omega) ?_) | (refine store_BoardF rfl _ _ rfl _ _ rfl rfl hT.i2 ?_; intro w9 ho9 hn9))
                  exact bodyPost_ret (results_cell rfl rfl (loadVar_Board hn9 (by omega))) rfl ⟨_, rfl, HRX.out, (hT.last ho9).1.mono (by omega), (hT.last ho9).2⟩
                exact AllReadyH.nil
              exact AllReadyH.nil
            exact AllReadyH.nil
          exact AllReadyH.nil
        refine AllReadyH.cons (o := _) rfl (fun K hK => ?_) ?_
        ·
          go_simp
          generalize hW : World.alloc _ _ = w2
          have jn := (Has.newat (n := 3) hW rfl).congr (d := fun o => .int .i64 (([-1, 18, 4611686018427387904] : List Int).getD o 0)) (fun o ho => by rcases (by omega : o = 0 ∨ o = 1 ∨ o = 2) with rfl | rfl | rfl <;> rfl)
          have hjC : some C ≠ some wx.heap.size := fun h => by have h1 := Option.some.inj h; have h2 := hT.rd.lt; omega
          have hT' := hT.at hW; clear hT hW; have hT := hT'; clear hT'
          generalize hSZ : (World.heap wx).size = Bn at *; clear hSZ
          generalize hWW : w2 = wx at *; clear hWW
          refine hK.out _ _ ?hS11 (fun hHeld => ?_)
          case hS11 => exact trivial
          clear hK K
          (try simp only [Act.put, List.setIfInBounds_toArray, List.set_cons_zero, List.set_cons_succ])
          refine wpAnyH_ready (rs := [1]) (by kernel_rfl) (by simp) ?_
          refine AllReadyH.cons (o := _) rfl (fun K hK => ?_) ?_
          ·
            go_simp
            refine (pick_rd 4 hn (by omega) (by decide) (by decide) hT.rd).mono ?_
            rintro e w2 ⟨v1, rfl, hv1, hR2, hG2⟩; have b1 : (0 : Int) ≤ v1 := (by omega); have c1 : (v1 : Int) < 4 := (by omega)
            (try go_wp2_with fail)
            have jn' := jn.grown hG2 hjC; clear jn; have jn := jn'; clear jn'
            have hT' := hT.call hR2 hG2; clear hT hR2 hG2; have hT := hT'; clear hT'
            generalize hWW : w2 = wx at *; clear hWW
            refine hK.out _ _ ?hS12 (fun hHeld => ?_)
            case hS12 => exact trivial
            clear hK K
            (try simp only [Act.put, List.setIfInBounds_toArray, List.set_cons_zero, List.set_cons_succ])
            refine take_d (i := 8) (some 60) (v := ?_) rfl rfl (by kernel_rfl) (by kernel_rfl) (by kernel_rfl) (fun _ _ _ h => h) (Or.inl ⟨by rfl, ?_⟩) (by assumption) ?_
            rotate_left; (intro w hSw; clear hSw; go_simp; try with_reducible rfl)
            all_goals (try simp only [Act.put, List.setIfInBounds_toArray, List.set_cons_zero, List.set_cons_succ])
            refine wpAnyH_ready (rs := [3]) (by kernel_rfl) (by simp) ?_
            refine AllReadyH.cons (o := _) rfl (fun K hK => ?_) ?_
            ·
              go_simp
              refine (pick_rd 4 hn (by omega) (by decide) (by decide) hT.rd).mono ?_
              rintro e w2 ⟨v2, rfl, hv2, hR2, hG2⟩; have b2 : (0 : Int) ≤ v2 := (by omega); have c2 : (v2 : Int) < 4 := (by omega)
              (try go_wp2_with fail)
              have jn' := jn.grown hG2 hjC; clear jn; have jn := jn'; clear jn'
              have hT' := hT.call hR2 hG2; clear hT hR2 hG2; have hT := hT'; clear hT'
              generalize hWW : w2 = wx at *; clear hWW
              refine hK.out _ _ ?hS13 (fun hHeld => ?_)
              case hS13 => exact trivial
              clear hK K
              (try simp only [Act.put, List.setIfInBounds_toArray, List.set_cons_zero, List.set_cons_succ])
              refine wpAnyH_ready (rs := [6]) (by kernel_rfl) (by simp) ?_
              refine AllReadyH.cons (o := _) rfl (fun K hK => ?_) ?_
              ·
                go_simp
                refine (among_own [-1, 18, 4611686018427387904] hn (by omega) (by decide) (by decide) hT.rd jn hjC _ rfl).mono ?_
                rintro e w2 ⟨t, ht, rfl, hR2, hG2⟩
                (try go_wp2_with fail)
                have hT' := hT.call hR2 hG2; clear hT hR2 hG2; have hT := hT'; clear hT'
                generalize hWW : w2 = wx at *; clear hWW
                refine hK.out _ _ ?hS14 (fun hHeld => ?_)
                case hS14 => exact trivial
                clear hK K
                (try simp only [Act.put, List.setIfInBounds_toArray, List.set_cons_zero, List.set_cons_succ])
                refine take_d (i := 9) (some 61) (v := ?_) rfl rfl (by kernel_rfl) (by kernel_rfl) (by kernel_rfl) (fun _ _ _ h => h) (Or.inl ⟨by rfl, ?_⟩) (by assumption) ?_
                rotate_left; (intro w hSw; clear hSw; go_simp; try with_reducible rfl)
                all_goals (try simp only [Act.put, List.setIfInBounds_toArray, List.set_cons_zero, List.set_cons_succ])
                refine wpAnyH_ready (rs := [10]) (by kernel_rfl) (by simp) ?_
                refine AllReadyH.cons (o := _) rfl (fun K hK => ?_) ?_
                ·
                  rw [if_pos (by rfl)]
                  refine wp_store_one 3 info_int _ _ rfl _ _ _ rfl rfl rfl rfl hT.i3 (by omega) ?_
                  intro w3 ho3 hn3
                  obtain ⟨g, HBG, hT'⟩ := hT.put' HBI.out ho3 hn3 (by first | exact lst_in ht (by decide) | exact wrap_i64 _ | omega); clear hT ho3 hn3; have hT := hT'; clear hT'
                  generalize hWW : w3 = wx at *; clear hWW
                  refine hK.out _ _ ?hS15 (fun hHeld => ?_)
                  case hS15 => exact trivial
                  clear hK K
                  (try simp only [Act.put, List.setIfInBounds_toArray, List.set_cons_zero, List.set_cons_succ])
                  refine wpAnyH_done (by kernel_rfl) ?_ _
                  (try refine NoPanic.normal ?_)
                  have HRX := hide HBG.out
                  go_wp2_with (first | (refine load_Board rfl _ rfl _ _ rfl hT.i3 (by omega) ?_) | (refine store_BoardF rfl _ _ rfl _ _ rfl rfl hT.i2 ?_; intro w9 ho9 hn9))
                  exact bodyPost_ret (results_cell rfl rfl (loadVar_Board hn9 (by omega))) rfl ⟨_, rfl, HRX.out, (hT.last ho9).1.mono (by omega), (hT.last ho9).2⟩
                exact AllReadyH.nil
              exact AllReadyH.nil
            exact AllReadyH.nil
          exact AllReadyH.nil
        exact AllReadyH.nil
      · go_upto_region 21 with (first | ((go_at_call 96); (refine (among_rd [16, 17, 16] hn (by omega) (by decide) (by decide) hT.rd _ _ _ rfl rfl).mono ?_); rintro e w2 ⟨t, ht, rfl, hR2, hG2⟩; have hT' := hT.call hR2 hG2; clear hT hR2 hG2; have hT := hT'; clear hT') | ((go_at_call 95); (refine (pick_rd 3 hn (by omega) (by decide) (by decide) hT.rd).mono ?_); rintro e w2 ⟨k, rfl, hk, hR2, hG2⟩; have hT' := hT.call hR2 hG2; clear hT hR2 hG2; have hT := hT'; clear hT'))
        have ht2 : -9223372036854775808 ≤ t ∧ t ≤ 9223372036854775807 := lst_in ht (by decide)
        have hT0 := hT
        clear hT
        go_upto_region 32 with (first | ((go_at_call 95); (refine (pick_rd 4 hn (by omega) (by decide) (by decide) hT0.rd).mono ?_); rintro e w2 ⟨q, rfl, hq, hR2, hG2⟩; have hT1 := hT0.call hR2 hG2; clear hT0 hR2 hG2; have b1 : (0 : Int) ≤ q := (by omega); have c1 : (q : Int) < 4 := (by omega)) | ((go_at_call 95); (refine (pick_rd 2 hn (by omega) (by decide) (by decide) hT1.rd).mono ?_); rintro e w2 ⟨z, rfl, hz, hR2, hG2⟩; have hT := hT1.call hR2 hG2; clear hT1 hR2 hG2) | (refine store_A4 rfl _ _ rfl _ _ _ _ _ _ rfl rfl rfl hT.i3 (by omega) ?_; intro w3 ho3 hn3))
        obtain ⟨g, HBG, hT'⟩ := hT.row HBI.out ho3 hn3 ht2 (by first | exact ht2 | exact wrap_i64 _ | omega) (by first | exact wrap_i64 _ | omega) (by first | exact wrap_i64 _ | omega)
        clear hT ho3 hn3
        have hT := hT'
        clear hT'
        have HRX := hide HBG.out
        go_wp2_with (first | (refine load_Board rfl _ rfl _ _ rfl hT.i3 (by omega) ?_) | (refine store_BoardF rfl _ _ rfl _ _ rfl rfl hT.i2 ?_; intro w9 ho9 hn9))
        exact bodyPost_ret (results_cell rfl rfl (loadVar_Board hn9 (by omega))) rfl ⟨_, rfl, HRX.out, (hT.last ho9).1.mono (by omega), (hT.last ho9).2⟩
      · go_upto_region 21 with (first | ((go_at_call 96); (refine (among_rd [16, 17, 16] hn (by omega) (by decide) (by decide) hT.rd _ _ _ rfl rfl).mono ?_); rintro e w2 ⟨t, ht, rfl, hR2, hG2⟩; have hT' := hT.call hR2 hG2; clear hT hR2 hG2; have hT := hT'; clear hT') | ((go_at_call 95); (refine (pick_rd 3 hn (by omega) (by decide) (by decide) hT.rd).mono ?_); rintro e w2 ⟨k, rfl, hk, hR2, hG2⟩; have hT' := hT.call hR2 hG2; clear hT hR2 hG2; have hT := hT'; clear hT'))
        have ht2 : -9223372036854775808 ≤ t ∧ t ≤ 9223372036854775807 := lst_in ht (by decide)
        have hT0 := hT
        clear hT
        go_upto_region 32 with (first | ((go_at_call 95); (refine (pick_rd 4 hn (by omega) (by decide) (by decide) hT0.rd).mono ?_); rintro e w2 ⟨q, rfl, hq, hR2, hG2⟩; have hT1 := hT0.call hR2 hG2; clear hT0 hR2 hG2; have b1 : (0 : Int) ≤ q := (by omega); have c1 : (q : Int) < 4 := (by omega)) | ((go_at_call 95); (refine (pick_rd 2 hn (by omega) (by decide) (by decide) hT1.rd).mono ?_); rintro e w2 ⟨z, rfl, hz, hR2, hG2⟩; have hT := hT1.call hR2 hG2; clear hT1 hR2 hG2) | (refine store_A4 rfl _ _ rfl _ _ _ _ _ _ rfl rfl rfl hT.i3 (by omega) ?_; intro w3 ho3 hn3))
        obtain ⟨g, HBG, hT'⟩ := hT.row HBI.out ho3 hn3 ht2 (by first | exact ht2 | exact wrap_i64 _ | omega) (by first | exact wrap_i64 _ | omega) (by first | exact wrap_i64 _ | omega)
        clear hT ho3 hn3
        have hT := hT'
        clear hT'
        have HRX := hide HBG.out
        go_wp2_with (first | (refine load_Board rfl _ rfl _ _ rfl hT.i3 (by omega) ?_) | (refine store_BoardF rfl _ _ rfl _ _ rfl rfl hT.i2 ?_; intro w9 ho9 hn9))
        exact bodyPost_ret (results_cell rfl rfl (loadVar_Board hn9 (by omega))) rfl ⟨_, rfl, HRX.out, (hT.last ho9).1.mono (by omega), (hT.last ho9).2⟩
      · go_wp2_with (refine store_BoardF rfl _ _ rfl _ (fun _ => 0) rfl rfl hT.i2 ?_; intro w9 ho9 hn9)
        exact bodyPost_ret (results_cell rfl rfl (loadVar_Board hn9 (by omega))) rfl ⟨fun _ => 0, rfl, fun _ _ => ⟨by simp, by simp⟩, (hT.last ho9).1.mono (by omega), (hT.last ho9).2⟩
      · go_upto_region 25 with (fail)
        go_wp2_with fail
        go_loopw [11] (fun v wr => ∃ (r : Nat) (f : Nat → Int), r ≤ 4 ∧ v = .int .i64 r ∧ Hid (BI f) ∧ BSt w C A n cp x w.heap.size B3 wr (m + 51 + 4 * r) f) (fun v _ => 4 - (intOf v).toNat)
        case atStart => exact ⟨0, f, by omega, rfl, HBI, hT.mono (by omega)⟩
        case round =>
          clear hT HBI
          obtain ⟨r, f, hr, rfl, hf, hT⟩ := hrel
          by_cases h4 : r = 4
          · subst h4
            have HRX := hide hf.out
            go_wp2_with (first | (refine load_Board rfl _ rfl _ _ rfl hT.i3 (by omega) ?_) | (refine store_BoardF rfl _ _ rfl _ _ rfl rfl hT.i2 ?_; intro w9 ho9 hn9))
            exact bodyPost_ret (results_cell rfl rfl (loadVar_Board hn9 (by omega))) rfl ⟨_, rfl, HRX.out, (hT.last ho9).1.mono (by omega), (hT.last ho9).2⟩
          · have hlt : r < 4 := by omega
            have hlti : (r : Int) < 4 := by omega
            have a0 : (0 : Int) ≤ r := by omega
            have hdr : decide ((r : Int) < 4) = true := decide_eq_true hlti
            go_wp2_with fail
            go_loopw [12] (fun v wr => ∃ (k : Nat) (f : Nat → Int), k ≤ 4 ∧ v = .int .i64 k ∧ Hid (BI f) ∧ BSt w C A n cp x w.heap.size B3 wr (m + 51 + 4 * r + k) f) (fun v _ => 4 - (intOf v).toNat)
            case atStart => exact ⟨0, f, by omega, rfl, hf, hT⟩
            case round =>
              clear hT hf
              obtain ⟨k, f, hk, rfl, hf, hT⟩ := hrel
              by_cases h4 : k = 4
              · subst h4
                go_wp2
                go_roundw
                case rel => exact ⟨r + 1, f, by omega, by go_num, hf, hT.mono (by omega)⟩
                case measure => simp [intOf]; omega
              · have hltk : k < 4 := by omega
                have hltki : (k : Int) < 4 := by omega
                have a1 : (0 : Int) ≤ k := by omega
                have HBI := hf
                clear hf
                go_upto_region 31 with (fail)
                refine wp_region_noPanic ?_
                refine wp_region_held_drew (S := fun _ => True) (by kernel_rfl) ?hS16 (fun hHeld => ?_)
                case hS16 => exact trivial
                have hT' := hT.draw; clear hT; have hT := hT'; clear hT'
                generalize hWW : World.drew _ = wx at *; clear hWW
                refine take_d (i := 0) (some 94) (v := ?_) rfl rfl (by kernel_rfl) (by kernel_rfl) (by kernel_rfl) (fun _ _ _ h => h) (Or.inl ⟨by rfl, ?_⟩) (by assumption) ?_
                rotate_left; (intro w hSw; clear hSw; go_simp; try with_reducible rfl)
                all_goals (try simp only [Act.put, List.setIfInBounds_toArray, List.set_cons_zero, List.set_cons_succ])
                refine take_d (i := 1) (some 95) (v := ?_) rfl rfl (by kernel_rfl) (by kernel_rfl) (by kernel_rfl) (fun _ _ _ h => h) (Or.inl ⟨by rfl, ?_⟩) (by assumption) ?_
                rotate_left; (intro w hSw; clear hSw; go_simp; try with_reducible rfl)
                all_goals (try simp only [Act.put, List.setIfInBounds_toArray, List.set_cons_zero, List.set_cons_succ])
                refine take_d (i := 2) (some 96) (v := ?_) rfl rfl (by kernel_rfl) (by kernel_rfl) (by kernel_rfl) (fun _ _ _ h => h) (Or.inl ⟨by rfl, ?_⟩) (by assumption) ?_
                rotate_left; (intro w hSw; clear hSw; go_simp; try with_reducible rfl)
                all_goals (try simp only [Act.put, List.setIfInBounds_toArray, List.set_cons_zero, List.set_cons_succ])
                refine take_d (i := 3) (some 97) (v := ?_) rfl rfl (by kernel_rfl) (by kernel_rfl) (by kernel_rfl) (fun _ _ _ h => h) (Or.inl ⟨by rfl, ?_⟩) (by assumption) ?_
                rotate_left; (intro w hSw; clear hSw; go_simp; try with_reducible rfl)
                all_goals (try simp only [Act.put, List.setIfInBounds_toArray, List.set_cons_zero, List.set_cons_succ])
                refine take_d (i := 4) (some 98) (v := ?_) rfl rfl (by kernel_rfl) (by kernel_rfl) (by kernel_rfl) (fun _ _ _ h => h) (Or.inl ⟨by rfl, ?_⟩) (by assumption) ?_
                rotate_left; (intro w hSw; clear hSw; go_simp; try with_reducible rfl)
                all_goals (try simp only [Act.put, List.setIfInBounds_toArray, List.set_cons_zero, List.set_cons_succ])
                refine take_d (i := 5) (some 99) (v := ?_) rfl rfl (by kernel_rfl) (by kernel_rfl) (by kernel_rfl) (fun _ _ _ h => h) (Or.inl ⟨by rfl, ?_⟩) (by assumption) ?_
                rotate_left; (intro w hSw; clear hSw; go_simp; try with_reducible rfl)
                all_goals (try simp only [Act.put, List.setIfInBounds_toArray, List.set_cons_zero, List.set_cons_succ])
                refine take_d (i := 6) (some 100) (v := ?_) rfl rfl (by kernel_rfl) (by kernel_rfl) (by kernel_rfl) (fun _ _ _ h => h) (Or.inl ⟨by rfl, ?_⟩) (by assumption) ?_
                rotate_left; (intro w hSw; clear hSw; go_simp; try with_reducible rfl)
                all_goals (try simp only [Act.put, List.setIfInBounds_toArray, List.set_cons_zero, List.set_cons_succ])
                refine take_d (i := 7) (some 101) (v := ?_) rfl rfl (by kernel_rfl) (by kernel_rfl) (by kernel_rfl) (fun _ _ _ h => h) (Or.inl ⟨by rfl, ?_⟩) (by assumption) ?_
                rotate_left; (intro w hSw; clear hSw; go_simp; try with_reducible rfl)
                all_goals (try simp only [Act.put, List.setIfInBounds_toArray, List.set_cons_zero, List.set_cons_succ])
                refine take_d (i := 12) (some 106) (v := ?_) rfl rfl (by kernel_rfl) (by kernel_rfl) (by kernel_rfl) (fun _ _ _ h => h) (Or.inl ⟨by rfl, ?_⟩) (by assumption) ?_
                rotate_left; (intro w hSw; clear hSw; go_simp; try with_reducible rfl)
                all_goals (try simp only [Act.put, List.setIfInBounds_toArray, List.set_cons_zero, List.set_cons_succ])
                refine take_d (i := 13) (some 107) (v := ?_) rfl rfl (by kernel_rfl) (by kernel_rfl) (by kernel_rfl) (fun _ _ _ h => h) (Or.inl ⟨by rfl, ?_⟩) (by assumption) ?_
                rotate_left; (intro w hSw; clear hSw; go_simp; try with_reducible rfl)
                all_goals (try simp only [Act.put, List.setIfInBounds_toArray, List.set_cons_zero, List.set_cons_succ])
                refine wpAnyH_ready (rs := [8]) (by kernel_rfl) (by simp) ?_
                refine AllReadyH.cons (o := _) rfl (fun K hK => ?_) ?_
                ·
                  go_simp
                  refine (pick_rd 12 hn (by omega) (by decide) (by decide) hT.rd).mono ?_
                  rintro e w2 ⟨v, rfl, hv, hR2, hG2⟩
                  (try go_wp2_with fail)
                  have hT' := hT.call hR2 hG2; clear hT hR2 hG2; have hT := hT'; clear hT'
                  generalize hWW : w2 = wx at *; clear hWW
                  refine hK.out _ _ ?hS17 (fun hHeld => ?_)
                  case hS17 => exact trivial
                  clear hK K
                  (try simp only [Act.put, List.setIfInBounds_toArray, List.set_cons_zero, List.set_cons_succ])
                  refine take_d (i := 9) (some 103) (v := ?_) rfl rfl (by kernel_rfl) (by kernel_rfl) (by kernel_rfl) (fun _ _ _ h => h) (Or.inl ⟨by rfl, ?_⟩) (by assumption) ?_
                  rotate_left; (intro w hSw; clear hSw; go_simp; try with_reducible rfl)
                  all_goals (try simp only [Act.put, List.setIfInBounds_toArray, List.set_cons_zero, List.set_cons_succ])
                  refine take_d (i := 10) (some 104) (v := ?_) rfl rfl (by kernel_rfl) (by kernel_rfl) (by kernel_rfl) (fun _ _ _ h => h) (Or.inl ⟨by rfl, ?_⟩) (by assumption) ?_
                  rotate_left; (intro w hSw; clear hSw; go_simp; try with_reducible rfl)
                  all_goals (try simp only [Act.put, List.setIfInBounds_toArray, List.set_cons_zero, List.set_cons_succ])
                  refine take_d (i := 11) (some 105) (v := ?_) rfl rfl (by kernel_rfl) (by kernel_rfl) (by kernel_rfl) (fun _ _ _ h => h) (Or.inl ⟨by rfl, ?_⟩) (by assumption) ?_
                  rotate_left; (intro w hSw; clear hSw; go_simp; try with_reducible rfl)
                  all_goals (try simp only [Act.put, List.setIfInBounds_toArray, List.set_cons_zero, List.set_cons_succ])
                  refine take_d (i := 14) (some 108) (v := ?_) rfl rfl (by kernel_rfl) (by kernel_rfl) (by kernel_rfl) (fun _ _ _ h => h) (Or.inl ⟨by rfl, ?_⟩) (by assumption) ?_
                  rotate_left; (intro w hSw; clear hSw; go_simp; try with_reducible rfl)
                  all_goals (try simp only [Act.put, List.setIfInBounds_toArray, List.set_cons_zero, List.set_cons_succ])
                  refine wpAnyH_ready (rs := [15]) (by kernel_rfl) (by simp) ?_
                  refine AllReadyH.cons (o := _) rfl (fun K hK => ?_) ?_
                  ·
                    rw [if_pos (by rfl)]
                    refine wp_store_one 3 info_int _ _ rfl _ _ _ rfl rfl rfl rfl hT.i3 (by omega) ?_
                    intro w3 ho3 hn3
                    obtain ⟨g, HBG, hT'⟩ := hT.put' HBI.out ho3 hn3 (by first | exact lst_in ht (by decide) | exact wrap_i64 _ | omega); clear hT ho3 hn3; have hT := hT'; clear hT'
                    generalize hWW : w3 = wx at *; clear hWW
                    refine hK.out _ _ ?hS18 (fun hHeld => ?_)
                    case hS18 => exact trivial
                    clear hK K
                    (try simp only [Act.put, List.setIfInBounds_toArray, List.set_cons_zero, List.set_cons_succ])
                    refine wpAnyH_done (by kernel_rfl) ?_ _
                    (try refine NoPanic.normal ?_)
                    go_wp2
                    go_roundw
                    case rel => exact ⟨_, _, _, _, _, _, _, _, _, _, _, _, _, _, _, _, _, _, _, _, ⟨k + 1, g, by omega, rfl, HBG, hT.mono (by omega)⟩, rfl⟩
                    case measure => simp [intOf]; omega
                  exact AllReadyH.nil
                exact AllReadyH.nil
      · have e0 : ((v : Int) == 0) = false := beq_eq_false_iff_ne.2 (by omega)
        have e1 : ((v : Int) == 1) = false := beq_eq_false_iff_ne.2 (by omega)
        have e2 : ((v : Int) == 2) = false := beq_eq_false_iff_ne.2 (by omega)
        have e3 : ((v : Int) == 3) = false := beq_eq_false_iff_ne.2 (by omega)
        have e4 : ((v : Int) == 4) = false := beq_eq_false_iff_ne.2 (by omega)
        have HRX := hide HBI.out
        go_wp2_with (first | (refine load_Board rfl _ rfl _ _ rfl hT.i3 (by omega) ?_) | (refine store_BoardF rfl _ _ rfl _ _ rfl rfl hT.i2 ?_; intro w9 ho9 hn9))
        exact bodyPost_ret (results_cell rfl rfl (loadVar_Board hn9 (by omega))) rfl ⟨_, rfl, HRX.out, (hT.last ho9).1.mono (by omega), (hT.last ho9).2⟩
    · have hlt : r < 4 := by omega
      have hlti : (r : Int) < 4 := by omega
      have a0 : (0 : Int) ≤ r := by omega
      have hdr : decide ((r : Int) < 4) = true := decide_eq_true hlti
      go_wp2_with fail
      go_loopw [7] (fun v wr => ∃ (c : Nat) (f : Nat → Int), c ≤ 4 ∧ v = .int .i64 c ∧ Hid (∀ i, 0 ≤ f i ∧ f i ≤ 5) ∧ BSt w C A n cp x w.heap.size B3 wr (m + 2 + 12 * r + 3 * c) f) (fun v _ => 4 - (intOf v).toNat)
      case atStart => exact ⟨0, f, by omega, rfl, hf, hT⟩
      case round =>
        clear hT hf
        obtain ⟨c, f, hc, rfl, hf, hT⟩ := hrel
        by_cases h4 : c = 4
        · subst h4
          go_wp2
          go_roundw
          case rel => exact ⟨r + 1, f, by omega, by go_num, hf, hT.mono (by omega)⟩
          case measure => simp [intOf]; omega
        · have hltc : c < 4 := by omega
          have hltci : (c : Int) < 4 := by omega
          have a1 : (0 : Int) ≤ c := by omega
          cases few <;> cases full
          all_goals
            go_wp2_with (first | ((go_at_call 106); (refine (tile_rd hn (by omega) hT.rd).mono ?_); rintro e w2 ⟨t, rfl, ht, hR2, hG2⟩; have hT' := hT.call hR2 hG2; clear hT hR2 hG2; have hT := hT'; clear hT') | ((go_at_call 94); (refine (one_rd 3 hn (by omega) (by decide) (by decide) hT.rd).mono ?_); rintro e w2 ⟨yes, rfl, hR2, hG2⟩; have hT' := hT.call hR2 hG2; clear hT hR2 hG2; have hT := hT'; clear hT') | ((go_at_call 95); (refine (pick_rd 3 hn (by omega) (by decide) (by decide) hT.rd).mono ?_); rintro e w2 ⟨v, rfl, hv, hR2, hG2⟩; have hT' := hT.call hR2 hG2; clear hT hR2 hG2; have hT := hT'; clear hT') | (refine store_int rfl _ _ rfl _ _ _ rfl rfl hT.i3 (by omega) ?_; intro w3 ho3 hn3; have hT' := hT.put ho3 hn3; clear hT ho3 hn3; have hT := hT'; clear hT'))
          all_goals
            go_roundw
            case rel => exact ⟨c + 1, _, by omega, by go_num, hide (fun i => by (try dsimp only); split; omega; exact hf.out i), hT.mono (by omega)⟩
            case measure => simp [intOf]; omega

end Go.Proofs.Ytegdnfmhhigjfaa
