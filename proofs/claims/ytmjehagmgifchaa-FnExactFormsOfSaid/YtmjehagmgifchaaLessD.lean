/-
  Contract: how two boards compare (the program's), with what a sort asks besides: nothing that lay there turns, and draws are only added.
-/
import Derived.Test.YtmjehagmgifchaaLess3
import Derived.Lib.QuietBelow
namespace Go.Proofs.Ytmjehagmgifchaa
open Go.RowKit

theorem run_fits_drawn {P : Program} (w : World) (base : Nat) (t ty e : TypeId) (i : TypeInfo) (size : Nat) (ht : P.underlying t = some (.slice e)) (hi : P.info? e = some i) (hsize : i.size = size)
    (g n cap : Nat) (xs : List Value) (hown : w.ownsRow base e size (.slice (some ⟨g, 0, none⟩) n cap) n xs) (a : Addr) (m c : Nat) (news : List Value) (hl : news.length = m * size)
    (hnews : ∀ j u, news[j]? = some u → w.cell? (a.add j) = some u) (h1 : ∀ u ∈ news, u.oneCell' = true) (hroom : n + m ≤ cap) :
    ∃ w', (Builtin.append_ #[t, t] ty #[.slice (some ⟨g, 0, none⟩) n cap, .slice (some a) m c]).run P w = .ok (.slice (some ⟨g, 0, none⟩) (n + m) cap) w' ∧
      w'.ownsRow base e size (.slice (some ⟨g, 0, none⟩) (n + m) cap) (n + m) (xs ++ news) ∧ w.grownBy w' (some g) ∧ w'.drawn = w.drawn := by
  obtain ⟨w', hr, r1, r2⟩ := run_append_fits w base t ty e i size ht hi hsize g n cap xs hown a m c news hl hnews h1 hroom
  refine ⟨w', hr, r1, r2, ?_⟩
  subst hsize
  rcases hown.2 with ⟨h, _⟩ | ⟨g', cap', cur, h, _, hg, hnc, _, hcs, _⟩
  · cases h
  · simp only [Value.slice.injEq, Option.some.injEq, Addr.mk.injEq, and_true, true_and] at h
    obtain ⟨rfl, rfl⟩ := h
    have hfit : n * i.size + news.length ≤ cur.size := by rw [hl, hcs, ← Nat.add_mul]; exact Nat.mul_le_mul_right _ hroom
    have hr2 := run_append_room (P := P) w t ty e i ht hi g n cap cur hg a m c news hl hnews h1 hroom hfit
    rw [hr2] at hr
    injection hr with _ hw
    rw [← hw]; rfl
theorem wpList_fits_drawn {P : Program} (w : World) {ops : Array Oper} {rest : List Oper} {o : Oper} {a : Act} {Q : Exit → Act → World → Prop}
    (hg : o.guard = none) (s x : Operand) (t : TypeId) (hop : o.op = Op.call { callee := Callee.builtin Builtin.append, args := #[s, x], argTypes := #[t, t] })
    (base : Nat) (e : TypeId) (i : TypeInfo) (size : Nat) (h1 : P.underlying t = some (.slice e)) (h2 : P.info? e = some i) (h4 : i.size = size)
    (g k cap : Nat) (xs : List Value) (hs : a.eval s = .slice (some ⟨g, 0, none⟩) k cap) (hown : w.ownsRow base e size (.slice (some ⟨g, 0, none⟩) k cap) k xs) (ad : Addr) (m c : Nat) (news : List Value) (hx : a.eval x = .slice (some ad) m c) (hn : news.length = m * size)
    (hc : ∀ j u, news[j]? = some u → w.cell? (ad.add j) = some u) (h1c : ∀ u ∈ news, u.oneCell' = true) (b1 : k + m ≤ cap)
    (hK : ∀ w', w'.ownsRow base e size (.slice (some ⟨g, 0, none⟩) (k + m) cap) (k + m) (xs ++ news) → w.grownBy w' (some g) → w'.drawn = w.drawn → wpList P ops Q rest (a.put o.dst (.slice (some ⟨g, 0, none⟩) (k + m) cap)) w') :
    wpList P ops Q (o :: rest) a w := by
  refine wpList_plain hg fun K hK' => ?_
  obtain ⟨w', hrun, r1, r2, r3⟩ := run_fits_drawn (P := P) w base t o.type e i size h1 h2 h4 g k cap xs hown ad m c news hn hc h1c b1
  unfold Oper.wp
  simp [execOp, hop, resolve, invoke, builtin, hs, hx, hrun, Result.andThen]
  exact hK' _ _ (hK w' r1 r2 r3)

set_option maxHeartbeats 4000000 in
theorem grow16_D (w : World) : Calls Try.prog 196 #[.slice none 0 0, .int .i64 16] w fun e w' => ∃ g cap, e = .returned (.slice (some ⟨g, 0, none⟩) 0 cap) ∧ 16 ≤ cap ∧ w'.ownsRow w.heap.size 3 1 (.slice (some ⟨g, 0, none⟩) 0 cap) 0 [] ∧ Below w.heap.size w w' ∧ w.drawn ≤ w'.drawn := by
  obtain ⟨i0, hi0, hz0, hz1, hz2⟩ := info_parts info_int3
  have hr := fun ty => Lib.run_append_nil_zeros w 35 3 ty 3 i0 (.int .i64 0) .i64 .i64 Try.underlying35 Try.underlying3 hi0 hz0 16 (by omega) (by omega) (by omega) (by rw [hz2]; omega)
  have HO := hide (grow_own w 3)
  have HG := grownCap_ge w 16 0 3
  have HGG := hide HG
  have HR := hide hr
  clear hr
  go_enter Try.func196, Try.ntmps196
  go_wp2_with (at_builtin; refine Lib.wpList_append_run _ rfl _ _ _ _ rfl _ _ rfl rfl _ _ (HR.out _) ?_)
  go_ret
  exact ⟨_, _, rfl, HGG.out, HO.out, (by repeat (first | (with_reducible exact Below.refl _ _) | (with_reducible assumption) | (with_reducible refine below_go ?_ (by with_reducible assumption)) | (with_reducible refine below_new ?_ _) | ((with_reducible refine below_put ?_ ?_ _); rotate_left; (dsimp only; omega)) | (with_reducible refine Below.drew ?_) | (with_reducible refine below_dn ?_ _))), Nat.le_succ _⟩

set_option maxHeartbeats 8000000 in
set_option maxRecDepth 100000 in
theorem concat_D (w : World) (S B c : Nat) (b : Nat → Int) (hS : Has w S 4 (fun i => .slice (some ⟨B, 4 * i, none⟩) 4 4)) (hH : Has w B 16 (fun o => .int .i64 (b o))) :
    Calls Try.prog 179 #[.slice (some ⟨S, 0, none⟩) 4 c] w fun e w' => ∃ v, e = .returned v ∧ w'.ownsRow w.heap.size 3 1 v 16 (nums b 16) ∧ Below w.heap.size w w' ∧ w.drawn ≤ w'.drawn := by
  obtain ⟨i0, hi0, hz0, hz1, hz2⟩ := info_parts info_int3
  have H1 := hide hS
  have H2 := hide hH
  clear hS hH
  go_enter Try.func179, Try.ntmps179
  go_wp2_with fail
  go_loop [3, 11] (fun u v => ∃ k : Nat, k ≤ 4 ∧ v = .int .i64 k ∧ u = .int .i64 (4 * (k : Int))) (fun _ i => 4 - (intOf i).toNat)
  case atStart => exact ⟨0, by omega, rfl, rfl⟩
  case round =>
    obtain ⟨k, hk, rfl, rfl⟩ := hrel
    by_cases h4 : k = 4
    · subst h4
      go_wp2_with ((go_at_call 196); (refine (grow16_D _).mono ?_); rintro e w1 ⟨g, cap, rfl, hcap, hown, hB, hD⟩)
      have i1 := H1.out.call hB
      have i2 := H2.out.call hB
      have hgS := own_at_ne hown H1.out.2.2
      have hgB := own_at_ne hown H2.out.2.2
      have O0 : w1.ownsRow w.heap.size 3 1 (.slice (some ⟨g, 0, none⟩) (4 * 0) cap) (4 * 0) (nums b (4 * 0)) := hown
      have HGS := hide hgS
      have HGB := hide hgB
      have hgw := (hown.lt g rfl).1
      clear hown hgS hgB
      go_loopw [6, 27] (fun v i wr => ∃ k : Nat, k ≤ 4 ∧ i = .int .i64 k ∧ v = .slice (some ⟨g, 0, none⟩) (4 * k) cap ∧ wr.ownsRow w.heap.size 3 1 (.slice (some ⟨g, 0, none⟩) (4 * k) cap) (4 * k) (nums b (4 * k)) ∧ Below w.heap.size w wr ∧ w.drawn ≤ wr.drawn ∧ Has wr S 4 (fun i => .slice (some ⟨B, 4 * i, none⟩) 4 4) ∧ Has wr B 16 (fun o => .int .i64 (b o))) (fun _ i _ => 4 - (intOf i).toNat)
      case atStart => exact ⟨0, by omega, rfl, rfl, O0, hB, hD, i1, i2⟩
      case round =>
        clear hB i1 i2 O0 hD
        obtain ⟨k, hk, rfl, rfl, hown, hB, hD, i1, i2⟩ := hrel
        by_cases h4 : k = 4
        · subst h4
          go_wp2
          go_ret
          exact ⟨_, rfl, hown, hB, hD⟩
        · have hlt : k < 4 := by omega
          have q1 : wr.cell? ⟨S, k, none⟩ = some (.slice (some ⟨B, 4 * k, none⟩) 4 4) := i1.1 k hlt
          have HN := hide (nums_four' b k)
          go_wp2_with (at_builtin; refine wpList_fits_drawn _ rfl _ _ 35 rfl w.heap.size 3 i0 1 Try.underlying35 hi0 hz1 g (4 * k) cap (nums b (4 * k)) rfl hown ⟨B, 4 * k, none⟩ 4 4 ((List.range 4).map fun j => .int .i64 (b (4 * k + j))) rfl rfl (i2.news (by omega)) (fun u hu => by obtain ⟨x, _, rfl⟩ := List.mem_map.1 hu; rfl) (by omega) ?_)
          intro w3 hown' hgrow hdr
          have hB1 : Below w.heap.size w w3 := hB.grown hgrow hB.size (fun q hq => (hown.lt q hq).1)
          have hD1 : w.drawn ≤ w3.drawn := by rw [hdr]; exact hD
          have j1 := i1.grown hgrow HGS.out
          have j2 := i2.grown hgrow HGB.out
          rw [HN.out] at hown'
          clear hown hB hgrow i1 i2 q1 hD hdr
          go_wp2
          go_roundw
          case rel => exact ⟨k + 1, by omega, by go_num, rfl, hown', hB1, hD1, j1, j2⟩
          case measure => simp [intOf]; omega
    · have hlt : k < 4 := by omega
      have q1 : w.cell? ⟨S, k, none⟩ = some (.slice (some ⟨B, 4 * k, none⟩) 4 4) := H1.out.1 k hlt
      go_wp2
      go_round
      case rel => exact ⟨k + 1, by omega, by go_num, by go_num⟩
      case measure => simp [intOf]; omega

set_option maxHeartbeats 4000000 in
set_option maxRecDepth 100000 in
theorem flat_D (b : Nat → Int) (w : World) : Calls Try.prog 168 #[.agg #[.int .i64 (b 0), .int .i64 (b 1), .int .i64 (b 2), .int .i64 (b 3), .int .i64 (b 4), .int .i64 (b 5), .int .i64 (b 6), .int .i64 (b 7), .int .i64 (b 8), .int .i64 (b 9), .int .i64 (b 10), .int .i64 (b 11), .int .i64 (b 12), .int .i64 (b 13), .int .i64 (b 14), .int .i64 (b 15)]] w fun e w' => ∃ g cap, e = .returned (.slice (some ⟨g, 0, none⟩) 16 cap) ∧ w.heap.size ≤ g ∧ Has w' g 16 (fun o => .int .i64 (b o)) ∧ Below w.heap.size w w' ∧ w.drawn ≤ w'.drawn := by
  go_enter Try.func168, Try.ntmps168
  go_upto_region 1 with (fail)
  generalize hW : w.alloc _ = w1
  have hB : Below w.heap.size w w1 := by (rw [← hW]; exact (by repeat (first | (with_reducible exact Below.refl _ _) | (with_reducible assumption) | (with_reducible refine below_go ?_ (by with_reducible assumption)) | (with_reducible refine below_new ?_ _) | ((with_reducible refine below_put ?_ ?_ _); rotate_left; (dsimp only; omega)) | (with_reducible refine Below.drew ?_) | (with_reducible refine below_dn ?_ _))))
  have hD : w.drawn ≤ w1.drawn := by (rw [← hW]; exact Nat.le_refl _)
  have i0 : Has w1 w.heap.size 16 (fun o => .int .i64 (b o)) := by (rw [← hW]; repeat (first | (refine Has.new ?_ rfl; simp; done) | refine Has.alloc ?_ _))
  have zi0 := i0.2.2
  clear hW
  go_wp2_with (first | ((refine wp_region_still_tail 12 (by kernel_rfl) (by kernel_rfl) ?_); (simp only [List.take_succ_cons, List.take_zero, List.drop_succ_cons, List.drop_zero]); (change wpStill _ _ (World.drew _) _ _ _); (repeat still_step); (refine wpStill_nil ?_); (change wpList _ _ _ _ _ (World.drew _))))
  refine (concat_D _ _ w.heap.size _ b ?hs ?hb).mono ?_
  case hs => exact Has.congr (Has.drew (Has.new' (n := 4) rfl)) (four4 _)
  case hb => exact (by repeat (first | (with_reducible assumption) | (with_reducible apply Has.set) | ((with_reducible apply Has.other); (case hne => (dsimp only; omega))) | (with_reducible apply Has.alloc) | (with_reducible apply Has.drew) | (with_reducible apply Has.drewN)))
  rintro e w2 ⟨v, rfl, hown, hb2, hd2⟩
  have hB' : Below w.heap.size w w2 := below_go ((by repeat (first | (with_reducible exact Below.refl _ _) | (with_reducible assumption) | (with_reducible refine below_go ?_ (by with_reducible assumption)) | (with_reducible refine below_new ?_ _) | ((with_reducible refine below_put ?_ ?_ _); rotate_left; (dsimp only; omega)) | (with_reducible refine Below.drew ?_) | (with_reducible refine below_dn ?_ _)))) hb2
  have hD' : w.drawn ≤ w2.drawn := Nat.le_trans (Nat.le_trans hD (Nat.le_succ _)) hd2
  have hown := own_base (base' := w.heap.size) hown (by simp; omega)
  obtain ⟨A, cap, rfl, _, hS⟩ := own_sl hown
  obtain ⟨g, rfl, hg, hH⟩ := hS (by omega)
  clear hS hown
  go_wp2
  go_ret
  exact ⟨_, _, rfl, hg, hH.congr fun o ho => by simp [nums, ho], hB', hD'⟩

end Go.Proofs.Ytmjehagmgifchaa
