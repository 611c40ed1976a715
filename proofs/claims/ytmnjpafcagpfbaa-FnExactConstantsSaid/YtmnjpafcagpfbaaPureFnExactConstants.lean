/- The law FnExactConstants answers true: the program's constants have the values that the law names. No condition. -/
import Derived.Test.YtmnjpafcagpfbaaPFnExactConstantsx1
namespace Go.Proofs.Ytmnjpafcagpfbaa.Pure
open Go.RowKit Go.Proofs.Ytmnjpafcagpfbaa.PFnExactConstants Go.Proofs.YtmnjpafcagpfbaaW.PrintWords Go.Proofs.YtmnjpafcagpfbaaW.PrintLast

theorem FnExactConstants : laws_FnExactConstants.Pure := by
  rfl

end Go.Proofs.Ytmnjpafcagpfbaa.Pure
