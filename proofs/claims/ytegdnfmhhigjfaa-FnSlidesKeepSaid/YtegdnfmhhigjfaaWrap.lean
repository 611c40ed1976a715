/-
  The opening of a law's arguments, and that they read behind the call as they did.
-/
import Derived.Test.YtegdnfmhhigjfaaRows
import Derived.Test.YtegdnfmhhigjfaaBase0
import Derived.Test.YtegdnfmhhigjfaaHead
import Derived.ProofKit
import Derived.OpenShut
import Derived.ShutString
import Derived.ChangeOld
import Derived.SizedLaws
namespace Go.Proofs.Ytegdnfmhhigjfaa
open Go.ChangeShapes Go.WideShapes Go.ChangeAt Go.RowKit

theorem and2 {a b : Bool} (h : a = true) (k : b = true) : (a && b) = true := by rw [h, k]; rfl
theorem own : ownKnob Try.prog.godebug = none := by kernel_rfl
theorem laidOut : laidOutB Try.prog = true := by kernel_rfl

/-- A value of an array or struct of n cells of one integer type. -/
theorem ints_of_okWide {P : Program} {w : World} {r : Reach} {base : Nat} {t e : TypeId} {v : Value} (n : Nat) (hagg : (match P.underlying t with | some (.struct _) | some (.array _ _) => true | _ => false) = true)
    (hts : P.cellTypes P.depth t = some (List.replicate n e)) (he : P.underlying e = some (.int .i64)) (hc : P.cellsOf t = n) (h : Value.okWide P w r base t v) :
    ∃ b : Nat → Int, v = .agg ((List.range n).map fun i => Value.int .i64 (b i)).toArray ∧ ∀ i, i < n → -9223372036854775808 ≤ b i ∧ b i ≤ 9223372036854775807 := by
  have h' : ∃ cs, v = .agg cs ∧ cs.size = P.cellsOf t ∧ Row.okWide P w r base t cs := by
    unfold Value.okWide at h
    cases hu : P.underlying t with
    | none => rw [hu] at hagg; simp at hagg
    | some d => cases d <;> rw [hu] at hagg h <;> first | exact h | simp at hagg
  obtain ⟨cs, rfl, hs, ts, hts', _, hcells⟩ := h'
  rw [hts] at hts'
  obtain rfl := Option.some.inj hts'
  rw [hc] at hs
  have key : ∀ i, i < n → ∃ q : Int, cs[i]? = some (.int .i64 q) ∧ -9223372036854775808 ≤ q ∧ q ≤ 9223372036854775807 := by
    intro i hi
    have hi' : i < cs.size := by omega
    obtain ⟨u, hu, hk⟩ := hcells i cs[i] (by simp [hi'])
    simp only [List.length_replicate] at hu
    rw [Nat.mod_eq_of_lt hi, List.getElem?_replicate, if_pos hi] at hu
    obtain rfl := Option.some.inj hu
    unfold Cell.okWide at hk
    rw [he] at hk
    have hk2 : Cell.ok P w r base e cs[i] := by
      revert hk
      cases cs[i] <;> exact fun hk => hk
    unfold Cell.ok at hk2
    rw [he] at hk2
    revert hk2
    cases hci : cs[i] with
    | int k q =>
      intro hk2
      obtain ⟨rfl, hq⟩ := hk2
      refine ⟨q, by simp [hi', hci], ?_⟩
      simpa [IntKind.has, IntKind.min, IntKind.max, IntKind.signed, IntKind.bits] using hq
    | _ => intro hk2; exact hk2.elim
  refine ⟨fun i => match cs[i]? with | some (.int .i64 q) => q | _ => 0, ?_, ?_⟩
  · congr 1
    apply Array.ext_getElem?
    intro i
    by_cases hi : i < n
    · obtain ⟨q, hq, _⟩ := key i hi
      simp [hq, hi]
    · have h1 : cs[i]? = none := Array.getElem?_eq_none (by omega)
      rw [h1]; simp [hi]
  · intro i hi
    obtain ⟨q, hq, hb⟩ := key i hi
    simp only [hq]
    exact hb

section
variable {H : Type} {enc : TypeId × Value → H}
theorem trodAll_below {P : Program} (hl : laidOutB P = true) {W W' : World} (hb : Below W.heap.size W W') : ∀ {ts : List TypeId} {vs : List Value} {ds : List (DataW H)} {ps : List MemPlace},
    (ts.all fun t => P.readableRec t && decide (t < P.types.size)) = true → DataW.TrodAll enc P W 0 (fun _ => true) true ts vs ds ps →
    DataW.TrodAll enc P W' 0 (fun b => decide (b < W.heap.size)) true ts vs ds ps
  | [], vs, ds, ps, _, h => by
    obtain ⟨rfl, rfl, rfl⟩ := trodAll_nil h
    exact trodAll_mk0
  | t :: ts, vs, ds, ps, hts, h => by
    have hlt := DataW.TrodAll.lt h
    obtain ⟨v0, vs0, d0, ds0, p0, q0, rfl, rfl, rfl, h0, r0⟩ := trodAll_cons h
    simp only [List.all_cons, Bool.and_eq_true, decide_eq_true_eq] at hts
    refine trodAll_cons_mk (Below.trod hl hts.1.1 hts.1.2 h0 hb fun x hx => hlt x (List.mem_append.2 (.inl hx))) (trodAll_below hl hb (by simpa using hts.2) r0)
end


end Go.Proofs.Ytegdnfmhhigjfaa
