/-
  No cell of these rows narrows 'for every input' (looked for: loops, veiled, ifaces, maps, wideKeys, modest, calm, conditions, laid).
  DERIVED. THE GIVEN ROWS OF THIS SEAT. 5 by the template 'for every input the law returns true; each argument reads behind the call as it read before'; 0 by the template 'total and deterministic' (their statements: YtmbmknpjmkgjlaaTotals.lean).
  GIVEN WITH THE SEED: the statements are not yours to turn. If you find one false, say at which input.
  Laid BY PROGRAM, IN A SANDBOX (cutbox-rows.mjs): the forced cells as the released guide's own fill.sh prints them over the translation c11c1050555dc24f… (all of the seat's roots in one cut). By AI agents, Wed Nov 11 2026. No macro, syntax, notation, axiom, sorry.
-/
import Derived.Test.YtmbmknpjmkgjlaaChecked
import GoSem.Claim
import GoSem.ClaimJoined
import GoSem.ClaimMapViews
import Derived.JoinedTies
import Derived.KernelRfl
namespace Go.Proofs.Ytmbmknpjmkgjlaa
/- THE CELL 'sum', in the pinned program and in every row, IS THE sha256 OF THE DUMP (.gsa) THAT YtmbmknpjmkgjlaaProg.lean LOADS. Nothing in Lean hashes anything: it is a label: what it is worth is what the hold of that sum in a sandbox is worth. -/
noncomputable def Try.pinned : Pinned := { name := "ytmbmknpjmkgjlaa", sum := "c11c1050555dc24f2aed0db74849dfd320f9475556d03adf41c6e3f0c3c053b7", checked := Try.checked }
namespace Rows
def none {H : Type} : Left H := { results := [], args := [] }

/-- 'laws.FnExactIsImage': WHATEVER THE INPUT: true; the input reads as it did. -/
def fnExactIsImageSpec : ChangeSpec := { name := "fnExactIsImage", fn := fun _ => fun
  | [d] => { results := [.lit (.bool true)], args := [d] }
  | _ => none }
def fnExactIsImageRow : OpenClaim := { program := "ytmbmknpjmkgjlaa", sum := "c11c1050555dc24f2aed0db74849dfd320f9475556d03adf41c6e3f0c3c053b7", func := "loop.example/g01194/laws.FnExactIsImage", spec := "fnExactIsImage", unfollowed := true, recurses := true, apart := false }
def FnExactIsImageSaid : Prop := fnExactIsImageRow.holds Try.pinned (OpenSpec.ofChange fnExactIsImageSpec)

/-- ITS FALSE NEIGHBOUR: 'it returns false'. Refute it at one input. -/
def fnExactIsImageWrong : ChangeSpec := { name := "fnExactIsImage", fn := fun _ => fun
  | [d] => { results := [.lit (.bool false)], args := [d] }
  | _ => none }
def FnExactIsImageWrongFalsely : Prop := fnExactIsImageRow.holds Try.pinned (OpenSpec.ofChange fnExactIsImageWrong)

/-- 'laws.FnExactCountImages': WHATEVER THE INPUT: true; the input reads as it did. -/
def fnExactCountImagesSpec : ChangeSpec := { name := "fnExactCountImages", fn := fun _ => fun
  | [d] => { results := [.lit (.bool true)], args := [d] }
  | _ => none }
def fnExactCountImagesRow : OpenClaim := { program := "ytmbmknpjmkgjlaa", sum := "c11c1050555dc24f2aed0db74849dfd320f9475556d03adf41c6e3f0c3c053b7", func := "loop.example/g01194/laws.FnExactCountImages", spec := "fnExactCountImages", unfollowed := true, recurses := true, apart := false }
def FnExactCountImagesSaid : Prop := fnExactCountImagesRow.holds Try.pinned (OpenSpec.ofChange fnExactCountImagesSpec)

/-- ITS FALSE NEIGHBOUR: 'it returns false'. Refute it at one input. -/
def fnExactCountImagesWrong : ChangeSpec := { name := "fnExactCountImages", fn := fun _ => fun
  | [d] => { results := [.lit (.bool false)], args := [d] }
  | _ => none }
def FnExactCountImagesWrongFalsely : Prop := fnExactCountImagesRow.holds Try.pinned (OpenSpec.ofChange fnExactCountImagesWrong)

/-- 'laws.FnExactRowsBefore': WHATEVER THE INPUT: true; the input reads as it did. -/
def fnExactRowsBeforeSpec : ChangeSpec := { name := "fnExactRowsBefore", fn := fun _ => fun
  | [d] => { results := [.lit (.bool true)], args := [d] }
  | _ => none }
def fnExactRowsBeforeRow : OpenClaim := { program := "ytmbmknpjmkgjlaa", sum := "c11c1050555dc24f2aed0db74849dfd320f9475556d03adf41c6e3f0c3c053b7", func := "loop.example/g01194/laws.FnExactRowsBefore", spec := "fnExactRowsBefore", unfollowed := true, recurses := true, apart := false }
def FnExactRowsBeforeSaid : Prop := fnExactRowsBeforeRow.holds Try.pinned (OpenSpec.ofChange fnExactRowsBeforeSpec)

/-- ITS FALSE NEIGHBOUR: 'it returns false'. Refute it at one input. -/
def fnExactRowsBeforeWrong : ChangeSpec := { name := "fnExactRowsBefore", fn := fun _ => fun
  | [d] => { results := [.lit (.bool false)], args := [d] }
  | _ => none }
def FnExactRowsBeforeWrongFalsely : Prop := fnExactRowsBeforeRow.holds Try.pinned (OpenSpec.ofChange fnExactRowsBeforeWrong)

/-- 'laws.FnRowScores': WHATEVER THE INPUT: true; the input reads as it did. -/
def fnRowScoresSpec : ChangeSpec := { name := "fnRowScores", fn := fun _ => fun
  | [d] => { results := [.lit (.bool true)], args := [d] }
  | _ => none }
def fnRowScoresRow : OpenClaim := { program := "ytmbmknpjmkgjlaa", sum := "c11c1050555dc24f2aed0db74849dfd320f9475556d03adf41c6e3f0c3c053b7", func := "loop.example/g01194/laws.FnRowScores", spec := "fnRowScores", unfollowed := true, recurses := true, apart := false }
def FnRowScoresSaid : Prop := fnRowScoresRow.holds Try.pinned (OpenSpec.ofChange fnRowScoresSpec)

/-- ITS FALSE NEIGHBOUR: 'it returns false'. Refute it at one input. -/
def fnRowScoresWrong : ChangeSpec := { name := "fnRowScores", fn := fun _ => fun
  | [d] => { results := [.lit (.bool false)], args := [d] }
  | _ => none }
def FnRowScoresWrongFalsely : Prop := fnRowScoresRow.holds Try.pinned (OpenSpec.ofChange fnRowScoresWrong)

/-- 'laws.FnRowsBack': WHATEVER THE INPUT: true; the input reads as it did. -/
def fnRowsBackSpec : ChangeSpec := { name := "fnRowsBack", fn := fun _ => fun
  | [d] => { results := [.lit (.bool true)], args := [d] }
  | _ => none }
def fnRowsBackRow : OpenClaim := { program := "ytmbmknpjmkgjlaa", sum := "c11c1050555dc24f2aed0db74849dfd320f9475556d03adf41c6e3f0c3c053b7", func := "loop.example/g01194/laws.FnRowsBack", spec := "fnRowsBack", unfollowed := true, recurses := true, apart := false }
def FnRowsBackSaid : Prop := fnRowsBackRow.holds Try.pinned (OpenSpec.ofChange fnRowsBackSpec)

/-- ITS FALSE NEIGHBOUR: 'it returns false'. Refute it at one input. -/
def fnRowsBackWrong : ChangeSpec := { name := "fnRowsBack", fn := fun _ => fun
  | [d] => { results := [.lit (.bool false)], args := [d] }
  | _ => none }
def FnRowsBackWrongFalsely : Prop := fnRowsBackRow.holds Try.pinned (OpenSpec.ofChange fnRowsBackWrong)

/- THE SECOND FORM. 'bulk': how many values and letters a reading holds, each counted each time it is reached (what is shared counts as often as it is met; a slice's spare places count too). A statement '..UptoSaid' is the law's where the arguments, and the package variables that the reading takes, are together of bulk at most 1048576: NARROWER than '..Said'. Prove '..Said' where nothing that the law and all that it calls make is longer than what came in: it says more and counts as full. Else prove '..UptoSaid'. A law counts once. -/
mutual
def uptoBulk {H : Type} : DataW H → Nat
  | .lit (.string bytes) => bytes.length + 1
  | .lit _ => 1
  | .nil => 1
  | .ptr d => uptoBulk d + 1
  | .slice elems spare => uptoBulkAll elems + uptoBulkAll spare + 1
  | .agg parts => uptoBulkAll parts + 1
  | .iface _ d => uptoBulk d + 1
  | .map entries => uptoBulkEntries entries + 1
  | .held _ => 1
def uptoBulkAll {H : Type} : List (DataW H) → Nat
  | [] => 0
  | d :: r => uptoBulk d + uptoBulkAll r
def uptoBulkEntries {H : Type} : List (Lit × DataW H) → Nat
  | [] => 0
  | x :: r => uptoBulkEntry x + uptoBulkEntries r
def uptoBulkEntry {H : Type} : Lit × DataW H → Nat
  | (.string bytes, d) => bytes.length + uptoBulk d + 1
  | (_, d) => uptoBulk d + 1
 end
def uptoSmall : (H : Type) → List (DataW H) → Bool := fun _ ds => decide (uptoBulkAll ds ≤ 1048576)
def OpenSpec.upto (s : _root_.Go.ChangeSpec) : _root_.Go.OpenSpec := { _root_.Go.OpenSpec.ofChange s with cond := some uptoSmall }

/-- 'laws.FnExactIsImage', WHERE WHAT IT READS IS OF BULK AT MOST 1048576: true; the input reads as it did. -/
def fnExactIsImageUptoRow : OpenClaim := { program := "ytmbmknpjmkgjlaa", sum := "c11c1050555dc24f2aed0db74849dfd320f9475556d03adf41c6e3f0c3c053b7", func := "loop.example/g01194/laws.FnExactIsImage", spec := "fnExactIsImage", unfollowed := true, recurses := true, apart := false, narrowed := true }
def FnExactIsImageUptoSaid : Prop := fnExactIsImageUptoRow.holds Try.pinned (OpenSpec.upto fnExactIsImageSpec)

/-- 'laws.FnExactCountImages', WHERE WHAT IT READS IS OF BULK AT MOST 1048576: true; the input reads as it did. -/
def fnExactCountImagesUptoRow : OpenClaim := { program := "ytmbmknpjmkgjlaa", sum := "c11c1050555dc24f2aed0db74849dfd320f9475556d03adf41c6e3f0c3c053b7", func := "loop.example/g01194/laws.FnExactCountImages", spec := "fnExactCountImages", unfollowed := true, recurses := true, apart := false, narrowed := true }
def FnExactCountImagesUptoSaid : Prop := fnExactCountImagesUptoRow.holds Try.pinned (OpenSpec.upto fnExactCountImagesSpec)

/-- 'laws.FnExactRowsBefore', WHERE WHAT IT READS IS OF BULK AT MOST 1048576: true; the input reads as it did. -/
def fnExactRowsBeforeUptoRow : OpenClaim := { program := "ytmbmknpjmkgjlaa", sum := "c11c1050555dc24f2aed0db74849dfd320f9475556d03adf41c6e3f0c3c053b7", func := "loop.example/g01194/laws.FnExactRowsBefore", spec := "fnExactRowsBefore", unfollowed := true, recurses := true, apart := false, narrowed := true }
def FnExactRowsBeforeUptoSaid : Prop := fnExactRowsBeforeUptoRow.holds Try.pinned (OpenSpec.upto fnExactRowsBeforeSpec)

/-- 'laws.FnRowScores', WHERE WHAT IT READS IS OF BULK AT MOST 1048576: true; the input reads as it did. -/
def fnRowScoresUptoRow : OpenClaim := { program := "ytmbmknpjmkgjlaa", sum := "c11c1050555dc24f2aed0db74849dfd320f9475556d03adf41c6e3f0c3c053b7", func := "loop.example/g01194/laws.FnRowScores", spec := "fnRowScores", unfollowed := true, recurses := true, apart := false, narrowed := true }
def FnRowScoresUptoSaid : Prop := fnRowScoresUptoRow.holds Try.pinned (OpenSpec.upto fnRowScoresSpec)

/-- 'laws.FnRowsBack', WHERE WHAT IT READS IS OF BULK AT MOST 1048576: true; the input reads as it did. -/
def fnRowsBackUptoRow : OpenClaim := { program := "ytmbmknpjmkgjlaa", sum := "c11c1050555dc24f2aed0db74849dfd320f9475556d03adf41c6e3f0c3c053b7", func := "loop.example/g01194/laws.FnRowsBack", spec := "fnRowsBack", unfollowed := true, recurses := true, apart := false, narrowed := true }
def FnRowsBackUptoSaid : Prop := fnRowsBackUptoRow.holds Try.pinned (OpenSpec.upto fnRowsBackSpec)

end Rows
end Go.Proofs.Ytmbmknpjmkgjlaa
