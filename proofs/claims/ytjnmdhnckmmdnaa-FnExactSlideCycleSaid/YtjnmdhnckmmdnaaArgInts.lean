/-
  An argument that is a slice of whole numbers; its copy.
-/
import Derived.Test.YtjnmdhnckmmdnaaWrap
import Derived.Test.YtjnmdhnckmmdnaaSl
import Derived.Deep.OwnRows
import Derived.Deep.DeepCutAuto
namespace Go.Proofs.Ytjnmdhnckmmdnaa
open Go.ChangeShapes Go.WideShapes Go.ChangeAt Go.RowKit

/-- The slice at A holds the n numbers x. -/
def ArgS (W : World) (A : Option Addr) (n : Nat) (x : Nat → Int) : Prop :=
  0 < n → ∃ b off, A = some ⟨b, off, none⟩ ∧ b < W.heap.size ∧ ∀ i, i < n → W.cell? ⟨b, off + i, none⟩ = some (.int .i64 (x i))
theorem ArgS.call {w w2 : World} {A : Option Addr} {n : Nat} {x : Nat → Int} (h : ArgS w A n x) (hb : Below w.heap.size w w2) : ArgS w2 A n x := fun h0 => by
  obtain ⟨b, off, e, hlt, hc⟩ := h h0
  exact ⟨b, off, e, Nat.lt_of_lt_of_le hlt hb.size, fun i hi => (hb.cell (p := ⟨b, off + i, none⟩) hlt).trans (hc i hi)⟩
theorem argS_of {w : World} {g n : Nat} {x : Nat → Int} (h : Has w g n (fun o => .int .i64 (x o))) : ArgS w (some ⟨g, 0, none⟩) n x := fun _ =>
  ⟨g, 0, rfl, h.2.2, fun i hi => by rw [Nat.zero_add]; exact h.1 i hi⟩

section
variable {H : Type} {enc : TypeId × Value → H}
set_option maxRecDepth 100000 in
theorem ints_arg {W : World} {r : Reach} {b0 : Nat} {t e : TypeId} {v : Value} {d : DataW H} {ps : List MemPlace} (ht : Try.prog.underlying t = some (.slice e)) (he : Try.prog.underlying e = some (.int .i64)) (hc : Try.prog.cellsOf e = 1)
    (hval : Value.okWide Try.prog W r b0 t v) (hd : DataW.Trod enc Try.prog W 0 (fun _ => true) true t v d ps) :
    ∃ A n cap x, v = .slice A n cap ∧ n ≤ maxLen ∧ Hid (ArgS W A n x) := by
  obtain ⟨a0, len, cap, rfl⟩ := okWide_slice ht hval
  obtain ⟨fuel, hf⟩ := hd
  rcases open_ints ht he hc hf with ⟨hcs, hx⟩ | ⟨a, len', cap', zs, hcs, _, hl, hm, hz, hx, hcell, hwz⟩
  · simp [Value.cells] at hcs
    obtain ⟨rfl, rfl, rfl⟩ := hcs
    exact ⟨none, 0, 0, fun _ => 0, rfl, (by unfold maxLen; omega), fun h => absurd h (Nat.lt_irrefl 0)⟩
  · simp [Value.cells] at hcs
    obtain ⟨rfl, rfl, rfl⟩ := hcs
    simp only [Prod.mk.injEq] at hx
    obtain ⟨rfl, rfl⟩ := hx
    simp only [if_true] at hz
    refine ⟨some a, len, cap, fun i => zs.getD i 0, rfl, Nat.le_trans hl hm, fun h0 => ?_⟩
    obtain ⟨b, off, spot⟩ := a
    have hlz : len ≤ zs.length := by omega
    have hspot : spot = none := by simpa [Addr.add] using World.cell?_spot (hcell 0 (by omega))
    subst hspot
    refine ⟨b, off, rfl, ?_, fun i hi => ?_⟩
    · have h1 := hcell 0 (by omega)
      exact World.block_lt_of_cell? W _ h1
    · have h1 := hcell i (by omega)
      rw [Addr.add_lit] at h1
      exact h1
end

theorem info_int4 : (Try.prog.info? 3).map (fun i => (i.zero, i.size, i.bytes)) = some (some (.int .i64 0), 1, 8) := by kernel_rfl
/-- The first k of n cells hold x. -/
def Fil (w : World) (g n k : Nat) (x : Nat → Int) : Prop := ∃ c, Has w g n c ∧ ∀ o, o < k → c o = .int .i64 (x o)
theorem madeCells_size1 (z : Value) (n : Nat) : (madeCells #[z] n).size = n := by simp [madeCells]

set_option maxHeartbeats 4000000 in
theorem toIntS_any (A : Option Addr) (n cap : Nat) (x : Nat → Int) (hn : n ≤ 1048576) (w : World) (h : ArgS w A n x) :
    Calls Try.prog 77 #[.slice A n cap] w fun e w' => ∃ g, e = .returned (.slice (some ⟨g, 0, none⟩) n n) ∧ w.heap.size ≤ g ∧ Has w' g n (fun o => .int .i64 (x o)) ∧ Below w.heap.size w w' := by
  have hmk := run_make_row' (P := Try.prog) 63 3 (.int .i64 0) 8 Try.underlying63 info_int4 rfl .i64 .i64 n (by omega) (by omega)
  rcases Nat.eq_zero_or_pos n with h0 | h0
  · subst h0
    clear h
    simp only [Int.natCast_zero] at hmk
    go_enter Try.func77, Try.ntmps77
    go_wp2
    refine wp_loop_rounds 1 ?_
    rw [rounds_succ]
    go_wp2
    go_ret
    exact ⟨_, rfl, Nat.le_refl _, (Has.new' (madeCells_size1 _ _)).congr (fun o ho => absurd ho (Nat.not_lt_zero o)), (by repeat (first | (with_reducible exact Below.refl _ _) | (with_reducible assumption) | (with_reducible refine below_go ?_ (by with_reducible assumption)) | (with_reducible refine below_new ?_ _) | ((with_reducible refine below_put ?_ ?_ _); rotate_left; (dsimp only; omega)) | (with_reducible refine Below.drew ?_) | (with_reducible refine below_dn ?_ _)))⟩
  · obtain ⟨b, off, rfl, hlt, hc⟩ := h h0
    have HC := hide hc
    clear hc h
    go_enter Try.func77, Try.ntmps77
    go_upto_region 3 with (fail)
    generalize hW : World.alloc _ _ = w1
    have hB : Below w.heap.size w w1 := by (rw [← hW]; exact (by repeat (first | (with_reducible exact Below.refl _ _) | (with_reducible assumption) | (with_reducible refine below_go ?_ (by with_reducible assumption)) | (with_reducible refine below_new ?_ _) | ((with_reducible refine below_put ?_ ?_ _); rotate_left; (dsimp only; omega)) | (with_reducible refine Below.drew ?_) | (with_reducible refine below_dn ?_ _))))
    have i0 : Fil w1 w.heap.size n 0 x := ⟨_, by (rw [← hW]; exact Has.new' (madeCells_size1 _ _)), fun o ho => absurd ho (Nat.not_lt_zero o)⟩
    clear hW hmk
    go_loopw [4] (fun v wr => ∃ k : Nat, k ≤ n ∧ v = .int .i64 k ∧ Below w.heap.size w wr ∧ Fil wr w.heap.size n k x) (fun i _ => n - (intOf i).toNat)
    case atStart => exact ⟨0, by omega, rfl, hB, i0⟩
    case round =>
      clear hB i0
      obtain ⟨k, hk, rfl, hB, c, i0, hcx⟩ := hrel
      have HX := hide hcx
      clear hcx
      by_cases hlt2 : k < n
      · have a1 : (0 : Int) ≤ k := by omega
        have a2 : (k : Int) < n := by omega
        have q1 : wr.cell? ⟨b, off + k, none⟩ = some (.int .i64 (x k)) := (hB.cell (p := ⟨b, off + k, none⟩) hlt).trans (HC.out k hlt2)
        go_wp2_with (first | (refine store_int rfl _ _ rfl _ _ _ rfl rfl (by repeat (first | (with_reducible assumption) | (with_reducible apply Has.set) | ((with_reducible apply Has.other); (case hne => (dsimp only; omega))) | (with_reducible apply Has.alloc) | (with_reducible apply Has.drew) | (with_reducible apply Has.drewN))) (by omega) ?_; intro w3 ho3 hn3; have hB' : Below w.heap.size w w3 := below_only (by repeat (first | (with_reducible exact Below.refl _ _) | (with_reducible assumption) | (with_reducible refine below_go ?_ (by with_reducible assumption)) | (with_reducible refine below_new ?_ _) | ((with_reducible refine below_put ?_ ?_ _); rotate_left; (dsimp only; omega)) | (with_reducible refine Below.drew ?_) | (with_reducible refine below_dn ?_ _))) ho3 (by omega); have i0' : Has w3 (w.heap.size) n _ := (by first | (with_reducible exact hn3) | exact Has.only (by repeat (first | (with_reducible assumption) | (with_reducible apply Has.set) | ((with_reducible apply Has.other); (case hne => (dsimp only; omega))) | (with_reducible apply Has.alloc) | (with_reducible apply Has.drew) | (with_reducible apply Has.drewN))) ho3 (by omega)); clear ho3 hn3; clear hB; have hB := hB'; clear hB'; (try clear fi0); (try clear zi0); (try clear ci0); clear i0; have i0 := i0'; clear i0'; have ci0 := i0.1; have fi0 := i0.2.1; have zi0 := i0.2.2))
        go_roundw
        case rel => exact ⟨k + 1, by omega, by go_num, hB, _, i0, fun o ho => by
          by_cases e : o = k
          · subst e; simp
          · simp only [e, if_false]; exact HX.out o (by omega)⟩
        case measure => simp [intOf]; omega
      · obtain rfl : k = n := by omega
        go_wp2
        go_ret
        exact ⟨_, rfl, Nat.le_refl _, i0.congr HX.out, hB⟩

end Go.Proofs.Ytjnmdhnckmmdnaa
