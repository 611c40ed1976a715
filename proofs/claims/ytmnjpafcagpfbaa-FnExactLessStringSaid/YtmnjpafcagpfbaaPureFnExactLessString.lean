/- For every two strings the law FnExactLessString answers true: the program's LessString and the reference's agree. No condition. -/
import Derived.Test.YtmnjpafcagpfbaaPFnExactLessStringx1
namespace Go.Proofs.Ytmnjpafcagpfbaa.Pure
open Go.RowKit Go.Proofs.Ytmnjpafcagpfbaa.PFnExactLessString Go.Proofs.YtmnjpafcagpfbaaW.PrintWords Go.Proofs.YtmnjpafcagpfbaaW.PrintLast

theorem FnExactLessString : laws_FnExactLessString.Pure := by
  intro a b _ _
  unfold laws_FnExactLessString.f spec_LessString.f impl_LessString.f
  split
  · rfl
  · split
    · rfl
    · simp

end Go.Proofs.Ytmnjpafcagpfbaa.Pure
