/-
  The cut's head word, read without running over the whole line: three closed facts of each row follow from it.
-/
import Derived.Test.YtegdnfmhhigjfaaProg
import Derived.KernelRfl
import GoSem.ClaimJoined
namespace Go.Proofs.Ytegdnfmhhigjfaa
namespace Head

theorem words_space (w : List Char) (h : (w.all fun c => c != Char.ofNat 32) = true) (r : List Char) : wordsSigns (w ++ Char.ofNat 32 :: r) = w :: wordsSigns r := by
  induction w with
  | nil => rfl
  | cons c w ih =>
    simp only [List.all_cons, Bool.and_eq_true, bne_iff_ne] at h
    have e : wordsSigns (c :: (w ++ Char.ofNat 32 :: r)) = match wordsSigns (w ++ Char.ofNat 32 :: r) with
      | x :: xs => (c :: x) :: xs
      | [] => [[c]] := by
      rw [wordsSigns.eq_def]
      split
      · rename_i heq; cases heq
      · rename_i heq; exact absurd (List.cons.inj heq).1 h.1
      · rename_i heq; obtain ⟨rfl, rfl⟩ := List.cons.inj heq; rfl
    rw [List.cons_append, e, ih (by simpa using h.2)]

def ofNats (l : List Nat) : List Char := l.map Char.ofNat
def w1 : List Char := ofNats [104, 97, 114, 110, 101, 115, 115]
def w2 : List Char := ofNats [53, 102, 57, 52, 50, 52, 99, 101, 48, 98, 50, 99, 53, 99, 52, 99, 53, 57, 101, 57, 48, 98, 54, 55, 101, 99, 101, 52, 48, 48, 98, 49, 49, 49, 54, 50, 50, 57, 48, 98, 55, 54, 54, 53, 97, 97, 49, 48, 52, 98, 52, 54, 102, 99, 50, 48, 52, 99, 100, 51, 98, 54, 101, 53]
def w3 : List Char := ofNats [99, 117, 116]
def rest : List Char := ofNats [97, 116, 32, 108, 111, 111, 112, 46, 101, 120, 97, 109, 112, 108, 101, 47, 103, 48, 49, 49, 57, 52, 47, 108, 97, 119, 115, 46, 70, 110, 70, 111, 114, 109, 71, 114, 111, 117, 112, 32, 108, 111, 111, 112, 46, 101, 120, 97, 109, 112, 108, 101, 47, 103, 48, 49, 49, 57, 52, 47, 108, 97, 119, 115, 46, 70, 110, 83, 108, 105, 100, 101, 115, 75, 101, 101, 112, 32, 108, 111, 111, 112, 46, 101, 120, 97, 109, 112, 108, 101, 47, 103, 48, 49, 49, 57, 52, 47, 108, 97, 119, 115, 46, 70, 110, 66, 111, 97, 114, 100, 115]

theorem order : Try.prog.initOrder = String.ofList (w1 ++ Char.ofNat 32 :: (w2 ++ Char.ofNat 32 :: (w3 ++ Char.ofNat 32 :: rest))) := by kernel_rfl

theorem words : behindMainWord (wordsSigns Try.prog.initOrder.toList) = w3 :: wordsSigns rest := by
  rw [order, String.toList_ofList, words_space w1 (by kernel_rfl), words_space w2 (by kernel_rfl), words_space w3 (by kernel_rfl)]
  show (if (w1 == "harness".toList || w1 == "ownmain".toList) && isSumSigns w2 then w3 :: wordsSigns rest else w1 :: w2 :: w3 :: wordsSigns rest) = _
  rw [if_pos (by kernel_rfl)]

theorem strip_cut (r : List (List Char)) : stripLifts liftWords (w3 :: r) = ([], w3 :: r) := by
  have key : ∀ os : List String, (os.all fun o => !(w3 == o.toList)) = true → stripLifts os (w3 :: r) = ([], w3 :: r) := by
    intro os
    induction os with
    | nil => intro _; rfl
    | cons o os ih =>
      intro h
      simp only [List.all_cons, Bool.and_eq_true, Bool.not_eq_true'] at h
      rw [stripLifts, if_neg (by rw [h.1]; decide)]
      exact ih h.2
  exact key liftWords (by kernel_rfl)

section
variable {P : Program} {r : List (List Char)}
theorem lifts_of (h : behindMainWord (wordsSigns P.initOrder.toList) = w3 :: r) : P.headLifts = [] := by
  unfold Program.headLifts
  rw [h, strip_cut]
  have e : ((w3 :: r).head? == some "cut".toList) = true := by
    show (some w3 == some "cut".toList) = true
    kernel_rfl
  simp only [e, if_true]

theorem mayEnter_of (h : behindMainWord (wordsSigns P.initOrder.toList) = w3 :: r) (h1 : P.laysLater = false) (h2 : P.bearsReflect = false) (h3 : P.doorFits [] = true) : P.mayEnter = true := by
  unfold Program.mayEnter
  rw [h]
  simp only [strip_cut, h1, h2, h3]
  have e : ((w3 :: r).head? == some "cut".toList) = true := by
    show (some w3 == some "cut".toList) = true
    kernel_rfl
  rw [e]
  simp

theorem liftsFinal_of (h : behindMainWord (wordsSigns P.initOrder.toList) = w3 :: r) : P.liftsFinal = false := by
  unfold Program.liftsFinal
  rw [lifts_of h, h]
  have e : ((w3 :: r).head? == some "carried".toList) = false := by
    show (some w3 == some "carried".toList) = false
    kernel_rfl
  simp only [e]
  rfl

theorem make_of (h : behindMainWord (wordsSigns P.initOrder.toList) = w3 :: r) : P.make = some .cut := by
  unfold Program.make
  rw [h]
  have e1 : (w3 == "gc".toList || w3 == "spec".toList) = false := by kernel_rfl
  have e2 : (w3 == "cut".toList) = true := by kernel_rfl
  simp only [e1, e2, Bool.true_or, if_true, Bool.false_eq_true, if_false]
end

theorem laysLater : Try.prog.laysLater = false := by kernel_rfl
theorem bearsReflect : Try.prog.bearsReflect = false := by kernel_rfl
theorem doorFits : Try.prog.doorFits [] = true := by kernel_rfl
theorem mayEnter : Try.prog.mayEnter = true := mayEnter_of words laysLater bearsReflect doorFits
theorem liftsFinal : Try.prog.liftsFinal = false := liftsFinal_of words
theorem make : Try.prog.make = some .cut := make_of words

end Head
end Go.Proofs.Ytegdnfmhhigjfaa
