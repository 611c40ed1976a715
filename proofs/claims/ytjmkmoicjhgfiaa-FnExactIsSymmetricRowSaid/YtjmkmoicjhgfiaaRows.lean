/-
  No cell of these rows narrows 'for every input' (looked for: loops, veiled, ifaces, maps, wideKeys, modest, calm, conditions, laid).
  DERIVED. THE GIVEN ROWS OF THIS SEAT. 15 by the template 'for every input the law returns true; each argument reads behind the call as it read before'; 0 by the template 'total and deterministic' (their statements: YtjmkmoicjhgfiaaTotals.lean).
  GIVEN WITH THE SEED: the statements are not yours to turn. If you find one false, say at which input.
  Laid BY PROGRAM, IN A SANDBOX (cutbox-rows.mjs): the forced cells as the released guide's own fill.sh prints them over the translation d0904673dba46fa6… (all of the seat's roots in one cut). By AI agents, Wed Nov 11 2026. No macro, syntax, notation, axiom, sorry.
-/
import Derived.Test.YtjmkmoicjhgfiaaChecked
import GoSem.Claim
import GoSem.ClaimJoined
import GoSem.ClaimMapViews
import Derived.JoinedTies
import Derived.KernelRfl
namespace Go.Proofs.Ytjmkmoicjhgfiaa
/- THE CELL 'sum', in the pinned program and in every row, IS THE sha256 OF THE DUMP (.gsa) THAT YtjmkmoicjhgfiaaProg.lean LOADS. Nothing in Lean hashes anything: it is a label: what it is worth is what the hold of that sum in a sandbox is worth. -/
noncomputable def Try.pinned : Pinned := { name := "ytjmkmoicjhgfiaa", sum := "d0904673dba46fa66c6da07ef3770c6641feafe2827e3c0f7b414714d5eb217c", checked := Try.checked }
namespace Rows
def none {H : Type} : Left H := { results := [], args := [] }

/-- 'laws.FnExactRowAt': WHATEVER THE INPUT: true; the input reads as it did. -/
def fnExactRowAtSpec : ChangeSpec := { name := "fnExactRowAt", fn := fun _ => fun
  | [d] => { results := [.lit (.bool true)], args := [d] }
  | _ => none }
def fnExactRowAtRow : OpenClaim := { program := "ytjmkmoicjhgfiaa", sum := "d0904673dba46fa66c6da07ef3770c6641feafe2827e3c0f7b414714d5eb217c", func := "loop.example/g01194/laws.FnExactRowAt", spec := "fnExactRowAt", apart := false }
def FnExactRowAtSaid : Prop := fnExactRowAtRow.holds Try.pinned (OpenSpec.ofChange fnExactRowAtSpec)

/-- ITS FALSE NEIGHBOUR: 'it returns false'. Refute it at one input. -/
def fnExactRowAtWrong : ChangeSpec := { name := "fnExactRowAt", fn := fun _ => fun
  | [d] => { results := [.lit (.bool false)], args := [d] }
  | _ => none }
def FnExactRowAtWrongFalsely : Prop := fnExactRowAtRow.holds Try.pinned (OpenSpec.ofChange fnExactRowAtWrong)

/-- 'laws.FnExactIsRow': WHATEVER THE INPUT: true; the input reads as it did. -/
def fnExactIsRowSpec : ChangeSpec := { name := "fnExactIsRow", fn := fun _ => fun
  | [d] => { results := [.lit (.bool true)], args := [d] }
  | _ => none }
def fnExactIsRowRow : OpenClaim := { program := "ytjmkmoicjhgfiaa", sum := "d0904673dba46fa66c6da07ef3770c6641feafe2827e3c0f7b414714d5eb217c", func := "loop.example/g01194/laws.FnExactIsRow", spec := "fnExactIsRow", unfollowed := true, recurses := true, apart := false }
def FnExactIsRowSaid : Prop := fnExactIsRowRow.holds Try.pinned (OpenSpec.ofChange fnExactIsRowSpec)

/-- ITS FALSE NEIGHBOUR: 'it returns false'. Refute it at one input. -/
def fnExactIsRowWrong : ChangeSpec := { name := "fnExactIsRow", fn := fun _ => fun
  | [d] => { results := [.lit (.bool false)], args := [d] }
  | _ => none }
def FnExactIsRowWrongFalsely : Prop := fnExactIsRowRow.holds Try.pinned (OpenSpec.ofChange fnExactIsRowWrong)

/-- 'laws.FnExactRowNumber': WHATEVER THE INPUT: true; the input reads as it did. -/
def fnExactRowNumberSpec : ChangeSpec := { name := "fnExactRowNumber", fn := fun _ => fun
  | [d] => { results := [.lit (.bool true)], args := [d] }
  | _ => none }
def fnExactRowNumberRow : OpenClaim := { program := "ytjmkmoicjhgfiaa", sum := "d0904673dba46fa66c6da07ef3770c6641feafe2827e3c0f7b414714d5eb217c", func := "loop.example/g01194/laws.FnExactRowNumber", spec := "fnExactRowNumber", unfollowed := true, recurses := true, apart := false }
def FnExactRowNumberSaid : Prop := fnExactRowNumberRow.holds Try.pinned (OpenSpec.ofChange fnExactRowNumberSpec)

/-- ITS FALSE NEIGHBOUR: 'it returns false'. Refute it at one input. -/
def fnExactRowNumberWrong : ChangeSpec := { name := "fnExactRowNumber", fn := fun _ => fun
  | [d] => { results := [.lit (.bool false)], args := [d] }
  | _ => none }
def FnExactRowNumberWrongFalsely : Prop := fnExactRowNumberRow.holds Try.pinned (OpenSpec.ofChange fnExactRowNumberWrong)

/-- 'laws.FnExactTurnRow': WHATEVER THE INPUT: true; the input reads as it did. -/
def fnExactTurnRowSpec : ChangeSpec := { name := "fnExactTurnRow", fn := fun _ => fun
  | [d] => { results := [.lit (.bool true)], args := [d] }
  | _ => none }
def fnExactTurnRowRow : OpenClaim := { program := "ytjmkmoicjhgfiaa", sum := "d0904673dba46fa66c6da07ef3770c6641feafe2827e3c0f7b414714d5eb217c", func := "loop.example/g01194/laws.FnExactTurnRow", spec := "fnExactTurnRow", unfollowed := true, recurses := true, apart := false }
def FnExactTurnRowSaid : Prop := fnExactTurnRowRow.holds Try.pinned (OpenSpec.ofChange fnExactTurnRowSpec)

/-- ITS FALSE NEIGHBOUR: 'it returns false'. Refute it at one input. -/
def fnExactTurnRowWrong : ChangeSpec := { name := "fnExactTurnRow", fn := fun _ => fun
  | [d] => { results := [.lit (.bool false)], args := [d] }
  | _ => none }
def FnExactTurnRowWrongFalsely : Prop := fnExactTurnRowRow.holds Try.pinned (OpenSpec.ofChange fnExactTurnRowWrong)

/-- 'laws.FnExactIsFlush': WHATEVER THE INPUT: true; the input reads as it did. -/
def fnExactIsFlushSpec : ChangeSpec := { name := "fnExactIsFlush", fn := fun _ => fun
  | [d] => { results := [.lit (.bool true)], args := [d] }
  | _ => none }
def fnExactIsFlushRow : OpenClaim := { program := "ytjmkmoicjhgfiaa", sum := "d0904673dba46fa66c6da07ef3770c6641feafe2827e3c0f7b414714d5eb217c", func := "loop.example/g01194/laws.FnExactIsFlush", spec := "fnExactIsFlush", unfollowed := true, recurses := true, apart := false }
def FnExactIsFlushSaid : Prop := fnExactIsFlushRow.holds Try.pinned (OpenSpec.ofChange fnExactIsFlushSpec)

/-- ITS FALSE NEIGHBOUR: 'it returns false'. Refute it at one input. -/
def fnExactIsFlushWrong : ChangeSpec := { name := "fnExactIsFlush", fn := fun _ => fun
  | [d] => { results := [.lit (.bool false)], args := [d] }
  | _ => none }
def FnExactIsFlushWrongFalsely : Prop := fnExactIsFlushRow.holds Try.pinned (OpenSpec.ofChange fnExactIsFlushWrong)

/-- 'laws.FnExactSlideRow': WHATEVER THE INPUT: true; the input reads as it did. -/
def fnExactSlideRowSpec : ChangeSpec := { name := "fnExactSlideRow", fn := fun _ => fun
  | [d] => { results := [.lit (.bool true)], args := [d] }
  | _ => none }
def fnExactSlideRowRow : OpenClaim := { program := "ytjmkmoicjhgfiaa", sum := "d0904673dba46fa66c6da07ef3770c6641feafe2827e3c0f7b414714d5eb217c", func := "loop.example/g01194/laws.FnExactSlideRow", spec := "fnExactSlideRow", unfollowed := true, recurses := true, apart := false }
def FnExactSlideRowSaid : Prop := fnExactSlideRowRow.holds Try.pinned (OpenSpec.ofChange fnExactSlideRowSpec)

/-- ITS FALSE NEIGHBOUR: 'it returns false'. Refute it at one input. -/
def fnExactSlideRowWrong : ChangeSpec := { name := "fnExactSlideRow", fn := fun _ => fun
  | [d] => { results := [.lit (.bool false)], args := [d] }
  | _ => none }
def FnExactSlideRowWrongFalsely : Prop := fnExactSlideRowRow.holds Try.pinned (OpenSpec.ofChange fnExactSlideRowWrong)

/-- 'laws.FnExactRowPairs': WHATEVER THE INPUT: true; the input reads as it did. -/
def fnExactRowPairsSpec : ChangeSpec := { name := "fnExactRowPairs", fn := fun _ => fun
  | [d] => { results := [.lit (.bool true)], args := [d] }
  | _ => none }
def fnExactRowPairsRow : OpenClaim := { program := "ytjmkmoicjhgfiaa", sum := "d0904673dba46fa66c6da07ef3770c6641feafe2827e3c0f7b414714d5eb217c", func := "loop.example/g01194/laws.FnExactRowPairs", spec := "fnExactRowPairs", unfollowed := true, recurses := true, apart := false }
def FnExactRowPairsSaid : Prop := fnExactRowPairsRow.holds Try.pinned (OpenSpec.ofChange fnExactRowPairsSpec)

/-- ITS FALSE NEIGHBOUR: 'it returns false'. Refute it at one input. -/
def fnExactRowPairsWrong : ChangeSpec := { name := "fnExactRowPairs", fn := fun _ => fun
  | [d] => { results := [.lit (.bool false)], args := [d] }
  | _ => none }
def FnExactRowPairsWrongFalsely : Prop := fnExactRowPairsRow.holds Try.pinned (OpenSpec.ofChange fnExactRowPairsWrong)

/-- 'laws.FnExactSettleRow': WHATEVER THE INPUT: true; the input reads as it did. -/
def fnExactSettleRowSpec : ChangeSpec := { name := "fnExactSettleRow", fn := fun _ => fun
  | [d] => { results := [.lit (.bool true)], args := [d] }
  | _ => none }
def fnExactSettleRowRow : OpenClaim := { program := "ytjmkmoicjhgfiaa", sum := "d0904673dba46fa66c6da07ef3770c6641feafe2827e3c0f7b414714d5eb217c", func := "loop.example/g01194/laws.FnExactSettleRow", spec := "fnExactSettleRow", unfollowed := true, recurses := true, apart := false }
def FnExactSettleRowSaid : Prop := fnExactSettleRowRow.holds Try.pinned (OpenSpec.ofChange fnExactSettleRowSpec)

/-- ITS FALSE NEIGHBOUR: 'it returns false'. Refute it at one input. -/
def fnExactSettleRowWrong : ChangeSpec := { name := "fnExactSettleRow", fn := fun _ => fun
  | [d] => { results := [.lit (.bool false)], args := [d] }
  | _ => none }
def FnExactSettleRowWrongFalsely : Prop := fnExactSettleRowRow.holds Try.pinned (OpenSpec.ofChange fnExactSettleRowWrong)

/-- 'laws.FnExactMostRowScore': WHATEVER THE INPUT: true; the input reads as it did. -/
def fnExactMostRowScoreSpec : ChangeSpec := { name := "fnExactMostRowScore", fn := fun _ => fun
  | [d] => { results := [.lit (.bool true)], args := [d] }
  | _ => none }
def fnExactMostRowScoreRow : OpenClaim := { program := "ytjmkmoicjhgfiaa", sum := "d0904673dba46fa66c6da07ef3770c6641feafe2827e3c0f7b414714d5eb217c", func := "loop.example/g01194/laws.FnExactMostRowScore", spec := "fnExactMostRowScore", unfollowed := true, recurses := true, apart := false }
def FnExactMostRowScoreSaid : Prop := fnExactMostRowScoreRow.holds Try.pinned (OpenSpec.ofChange fnExactMostRowScoreSpec)

/-- ITS FALSE NEIGHBOUR: 'it returns false'. Refute it at one input. -/
def fnExactMostRowScoreWrong : ChangeSpec := { name := "fnExactMostRowScore", fn := fun _ => fun
  | [d] => { results := [.lit (.bool false)], args := [d] }
  | _ => none }
def FnExactMostRowScoreWrongFalsely : Prop := fnExactMostRowScoreRow.holds Try.pinned (OpenSpec.ofChange fnExactMostRowScoreWrong)

/-- 'laws.FnExactIsSymmetricRow': WHATEVER THE INPUT: true; the input reads as it did. -/
def fnExactIsSymmetricRowSpec : ChangeSpec := { name := "fnExactIsSymmetricRow", fn := fun _ => fun
  | [d] => { results := [.lit (.bool true)], args := [d] }
  | _ => none }
def fnExactIsSymmetricRowRow : OpenClaim := { program := "ytjmkmoicjhgfiaa", sum := "d0904673dba46fa66c6da07ef3770c6641feafe2827e3c0f7b414714d5eb217c", func := "loop.example/g01194/laws.FnExactIsSymmetricRow", spec := "fnExactIsSymmetricRow", unfollowed := true, recurses := true, apart := false }
def FnExactIsSymmetricRowSaid : Prop := fnExactIsSymmetricRowRow.holds Try.pinned (OpenSpec.ofChange fnExactIsSymmetricRowSpec)

/-- ITS FALSE NEIGHBOUR: 'it returns false'. Refute it at one input. -/
def fnExactIsSymmetricRowWrong : ChangeSpec := { name := "fnExactIsSymmetricRow", fn := fun _ => fun
  | [d] => { results := [.lit (.bool false)], args := [d] }
  | _ => none }
def FnExactIsSymmetricRowWrongFalsely : Prop := fnExactIsSymmetricRowRow.holds Try.pinned (OpenSpec.ofChange fnExactIsSymmetricRowWrong)

/-- 'laws.FnRowScores': WHATEVER THE INPUT: true; the input reads as it did. -/
def fnRowScoresSpec : ChangeSpec := { name := "fnRowScores", fn := fun _ => fun
  | [d] => { results := [.lit (.bool true)], args := [d] }
  | _ => none }
def fnRowScoresRow : OpenClaim := { program := "ytjmkmoicjhgfiaa", sum := "d0904673dba46fa66c6da07ef3770c6641feafe2827e3c0f7b414714d5eb217c", func := "loop.example/g01194/laws.FnRowScores", spec := "fnRowScores", unfollowed := true, recurses := true, apart := false }
def FnRowScoresSaid : Prop := fnRowScoresRow.holds Try.pinned (OpenSpec.ofChange fnRowScoresSpec)

/-- ITS FALSE NEIGHBOUR: 'it returns false'. Refute it at one input. -/
def fnRowScoresWrong : ChangeSpec := { name := "fnRowScores", fn := fun _ => fun
  | [d] => { results := [.lit (.bool false)], args := [d] }
  | _ => none }
def FnRowScoresWrongFalsely : Prop := fnRowScoresRow.holds Try.pinned (OpenSpec.ofChange fnRowScoresWrong)

/-- 'laws.FnExactIsImage': WHATEVER THE INPUT: true; the input reads as it did. -/
def fnExactIsImageSpec : ChangeSpec := { name := "fnExactIsImage", fn := fun _ => fun
  | [d] => { results := [.lit (.bool true)], args := [d] }
  | _ => none }
def fnExactIsImageRow : OpenClaim := { program := "ytjmkmoicjhgfiaa", sum := "d0904673dba46fa66c6da07ef3770c6641feafe2827e3c0f7b414714d5eb217c", func := "loop.example/g01194/laws.FnExactIsImage", spec := "fnExactIsImage", unfollowed := true, recurses := true, apart := false }
def FnExactIsImageSaid : Prop := fnExactIsImageRow.holds Try.pinned (OpenSpec.ofChange fnExactIsImageSpec)

/-- ITS FALSE NEIGHBOUR: 'it returns false'. Refute it at one input. -/
def fnExactIsImageWrong : ChangeSpec := { name := "fnExactIsImage", fn := fun _ => fun
  | [d] => { results := [.lit (.bool false)], args := [d] }
  | _ => none }
def FnExactIsImageWrongFalsely : Prop := fnExactIsImageRow.holds Try.pinned (OpenSpec.ofChange fnExactIsImageWrong)

/-- 'laws.FnExactCountImages': WHATEVER THE INPUT: true; the input reads as it did. -/
def fnExactCountImagesSpec : ChangeSpec := { name := "fnExactCountImages", fn := fun _ => fun
  | [d] => { results := [.lit (.bool true)], args := [d] }
  | _ => none }
def fnExactCountImagesRow : OpenClaim := { program := "ytjmkmoicjhgfiaa", sum := "d0904673dba46fa66c6da07ef3770c6641feafe2827e3c0f7b414714d5eb217c", func := "loop.example/g01194/laws.FnExactCountImages", spec := "fnExactCountImages", unfollowed := true, recurses := true, apart := false }
def FnExactCountImagesSaid : Prop := fnExactCountImagesRow.holds Try.pinned (OpenSpec.ofChange fnExactCountImagesSpec)

/-- ITS FALSE NEIGHBOUR: 'it returns false'. Refute it at one input. -/
def fnExactCountImagesWrong : ChangeSpec := { name := "fnExactCountImages", fn := fun _ => fun
  | [d] => { results := [.lit (.bool false)], args := [d] }
  | _ => none }
def FnExactCountImagesWrongFalsely : Prop := fnExactCountImagesRow.holds Try.pinned (OpenSpec.ofChange fnExactCountImagesWrong)

/-- 'laws.FnExactRowsBefore': WHATEVER THE INPUT: true; the input reads as it did. -/
def fnExactRowsBeforeSpec : ChangeSpec := { name := "fnExactRowsBefore", fn := fun _ => fun
  | [d] => { results := [.lit (.bool true)], args := [d] }
  | _ => none }
def fnExactRowsBeforeRow : OpenClaim := { program := "ytjmkmoicjhgfiaa", sum := "d0904673dba46fa66c6da07ef3770c6641feafe2827e3c0f7b414714d5eb217c", func := "loop.example/g01194/laws.FnExactRowsBefore", spec := "fnExactRowsBefore", unfollowed := true, recurses := true, apart := false }
def FnExactRowsBeforeSaid : Prop := fnExactRowsBeforeRow.holds Try.pinned (OpenSpec.ofChange fnExactRowsBeforeSpec)

/-- ITS FALSE NEIGHBOUR: 'it returns false'. Refute it at one input. -/
def fnExactRowsBeforeWrong : ChangeSpec := { name := "fnExactRowsBefore", fn := fun _ => fun
  | [d] => { results := [.lit (.bool false)], args := [d] }
  | _ => none }
def FnExactRowsBeforeWrongFalsely : Prop := fnExactRowsBeforeRow.holds Try.pinned (OpenSpec.ofChange fnExactRowsBeforeWrong)

/-- 'laws.FnRowsBack': WHATEVER THE INPUT: true; the input reads as it did. -/
def fnRowsBackSpec : ChangeSpec := { name := "fnRowsBack", fn := fun _ => fun
  | [d] => { results := [.lit (.bool true)], args := [d] }
  | _ => none }
def fnRowsBackRow : OpenClaim := { program := "ytjmkmoicjhgfiaa", sum := "d0904673dba46fa66c6da07ef3770c6641feafe2827e3c0f7b414714d5eb217c", func := "loop.example/g01194/laws.FnRowsBack", spec := "fnRowsBack", unfollowed := true, recurses := true, apart := false }
def FnRowsBackSaid : Prop := fnRowsBackRow.holds Try.pinned (OpenSpec.ofChange fnRowsBackSpec)

/-- ITS FALSE NEIGHBOUR: 'it returns false'. Refute it at one input. -/
def fnRowsBackWrong : ChangeSpec := { name := "fnRowsBack", fn := fun _ => fun
  | [d] => { results := [.lit (.bool false)], args := [d] }
  | _ => none }
def FnRowsBackWrongFalsely : Prop := fnRowsBackRow.holds Try.pinned (OpenSpec.ofChange fnRowsBackWrong)

/- THE SECOND FORM. 'bulk': how many values and letters a reading holds, each counted each time it is reached (what is shared counts as often as it is met; a slice's spare places count too). A statement '..UptoSaid' is the law's where the arguments, and the package variables that the reading takes, are together of bulk at most 1048576: NARROWER than '..Said'. Prove '..Said' where nothing that the law and all that it calls make is longer than what came in: it says more and counts as full. Else prove '..UptoSaid'. A law counts once. -/
mutual
def uptoBulk {H : Type} : DataW H → Nat
  | .lit (.string bytes) => bytes.length + 1
  | .lit _ => 1
  | .nil => 1
  | .ptr d => uptoBulk d + 1
  | .slice elems spare => uptoBulkAll elems + uptoBulkAll spare + 1
  | .agg parts => uptoBulkAll parts + 1
  | .iface _ d => uptoBulk d + 1
  | .map entries => uptoBulkEntries entries + 1
  | .held _ => 1
def uptoBulkAll {H : Type} : List (DataW H) → Nat
  | [] => 0
  | d :: r => uptoBulk d + uptoBulkAll r
def uptoBulkEntries {H : Type} : List (Lit × DataW H) → Nat
  | [] => 0
  | x :: r => uptoBulkEntry x + uptoBulkEntries r
def uptoBulkEntry {H : Type} : Lit × DataW H → Nat
  | (.string bytes, d) => bytes.length + uptoBulk d + 1
  | (_, d) => uptoBulk d + 1
 end
def uptoSmall : (H : Type) → List (DataW H) → Bool := fun _ ds => decide (uptoBulkAll ds ≤ 1048576)
def OpenSpec.upto (s : _root_.Go.ChangeSpec) : _root_.Go.OpenSpec := { _root_.Go.OpenSpec.ofChange s with cond := some uptoSmall }

/-- 'laws.FnExactRowAt', WHERE WHAT IT READS IS OF BULK AT MOST 1048576: true; the input reads as it did. -/
def fnExactRowAtUptoRow : OpenClaim := { program := "ytjmkmoicjhgfiaa", sum := "d0904673dba46fa66c6da07ef3770c6641feafe2827e3c0f7b414714d5eb217c", func := "loop.example/g01194/laws.FnExactRowAt", spec := "fnExactRowAt", apart := false, narrowed := true }
def FnExactRowAtUptoSaid : Prop := fnExactRowAtUptoRow.holds Try.pinned (OpenSpec.upto fnExactRowAtSpec)

/-- 'laws.FnExactIsRow', WHERE WHAT IT READS IS OF BULK AT MOST 1048576: true; the input reads as it did. -/
def fnExactIsRowUptoRow : OpenClaim := { program := "ytjmkmoicjhgfiaa", sum := "d0904673dba46fa66c6da07ef3770c6641feafe2827e3c0f7b414714d5eb217c", func := "loop.example/g01194/laws.FnExactIsRow", spec := "fnExactIsRow", unfollowed := true, recurses := true, apart := false, narrowed := true }
def FnExactIsRowUptoSaid : Prop := fnExactIsRowUptoRow.holds Try.pinned (OpenSpec.upto fnExactIsRowSpec)

/-- 'laws.FnExactRowNumber', WHERE WHAT IT READS IS OF BULK AT MOST 1048576: true; the input reads as it did. -/
def fnExactRowNumberUptoRow : OpenClaim := { program := "ytjmkmoicjhgfiaa", sum := "d0904673dba46fa66c6da07ef3770c6641feafe2827e3c0f7b414714d5eb217c", func := "loop.example/g01194/laws.FnExactRowNumber", spec := "fnExactRowNumber", unfollowed := true, recurses := true, apart := false, narrowed := true }
def FnExactRowNumberUptoSaid : Prop := fnExactRowNumberUptoRow.holds Try.pinned (OpenSpec.upto fnExactRowNumberSpec)

/-- 'laws.FnExactTurnRow', WHERE WHAT IT READS IS OF BULK AT MOST 1048576: true; the input reads as it did. -/
def fnExactTurnRowUptoRow : OpenClaim := { program := "ytjmkmoicjhgfiaa", sum := "d0904673dba46fa66c6da07ef3770c6641feafe2827e3c0f7b414714d5eb217c", func := "loop.example/g01194/laws.FnExactTurnRow", spec := "fnExactTurnRow", unfollowed := true, recurses := true, apart := false, narrowed := true }
def FnExactTurnRowUptoSaid : Prop := fnExactTurnRowUptoRow.holds Try.pinned (OpenSpec.upto fnExactTurnRowSpec)

/-- 'laws.FnExactIsFlush', WHERE WHAT IT READS IS OF BULK AT MOST 1048576: true; the input reads as it did. -/
def fnExactIsFlushUptoRow : OpenClaim := { program := "ytjmkmoicjhgfiaa", sum := "d0904673dba46fa66c6da07ef3770c6641feafe2827e3c0f7b414714d5eb217c", func := "loop.example/g01194/laws.FnExactIsFlush", spec := "fnExactIsFlush", unfollowed := true, recurses := true, apart := false, narrowed := true }
def FnExactIsFlushUptoSaid : Prop := fnExactIsFlushUptoRow.holds Try.pinned (OpenSpec.upto fnExactIsFlushSpec)

/-- 'laws.FnExactSlideRow', WHERE WHAT IT READS IS OF BULK AT MOST 1048576: true; the input reads as it did. -/
def fnExactSlideRowUptoRow : OpenClaim := { program := "ytjmkmoicjhgfiaa", sum := "d0904673dba46fa66c6da07ef3770c6641feafe2827e3c0f7b414714d5eb217c", func := "loop.example/g01194/laws.FnExactSlideRow", spec := "fnExactSlideRow", unfollowed := true, recurses := true, apart := false, narrowed := true }
def FnExactSlideRowUptoSaid : Prop := fnExactSlideRowUptoRow.holds Try.pinned (OpenSpec.upto fnExactSlideRowSpec)

/-- 'laws.FnExactRowPairs', WHERE WHAT IT READS IS OF BULK AT MOST 1048576: true; the input reads as it did. -/
def fnExactRowPairsUptoRow : OpenClaim := { program := "ytjmkmoicjhgfiaa", sum := "d0904673dba46fa66c6da07ef3770c6641feafe2827e3c0f7b414714d5eb217c", func := "loop.example/g01194/laws.FnExactRowPairs", spec := "fnExactRowPairs", unfollowed := true, recurses := true, apart := false, narrowed := true }
def FnExactRowPairsUptoSaid : Prop := fnExactRowPairsUptoRow.holds Try.pinned (OpenSpec.upto fnExactRowPairsSpec)

/-- 'laws.FnExactSettleRow', WHERE WHAT IT READS IS OF BULK AT MOST 1048576: true; the input reads as it did. -/
def fnExactSettleRowUptoRow : OpenClaim := { program := "ytjmkmoicjhgfiaa", sum := "d0904673dba46fa66c6da07ef3770c6641feafe2827e3c0f7b414714d5eb217c", func := "loop.example/g01194/laws.FnExactSettleRow", spec := "fnExactSettleRow", unfollowed := true, recurses := true, apart := false, narrowed := true }
def FnExactSettleRowUptoSaid : Prop := fnExactSettleRowUptoRow.holds Try.pinned (OpenSpec.upto fnExactSettleRowSpec)

/-- 'laws.FnExactMostRowScore', WHERE WHAT IT READS IS OF BULK AT MOST 1048576: true; the input reads as it did. -/
def fnExactMostRowScoreUptoRow : OpenClaim := { program := "ytjmkmoicjhgfiaa", sum := "d0904673dba46fa66c6da07ef3770c6641feafe2827e3c0f7b414714d5eb217c", func := "loop.example/g01194/laws.FnExactMostRowScore", spec := "fnExactMostRowScore", unfollowed := true, recurses := true, apart := false, narrowed := true }
def FnExactMostRowScoreUptoSaid : Prop := fnExactMostRowScoreUptoRow.holds Try.pinned (OpenSpec.upto fnExactMostRowScoreSpec)

/-- 'laws.FnExactIsSymmetricRow', WHERE WHAT IT READS IS OF BULK AT MOST 1048576: true; the input reads as it did. -/
def fnExactIsSymmetricRowUptoRow : OpenClaim := { program := "ytjmkmoicjhgfiaa", sum := "d0904673dba46fa66c6da07ef3770c6641feafe2827e3c0f7b414714d5eb217c", func := "loop.example/g01194/laws.FnExactIsSymmetricRow", spec := "fnExactIsSymmetricRow", unfollowed := true, recurses := true, apart := false, narrowed := true }
def FnExactIsSymmetricRowUptoSaid : Prop := fnExactIsSymmetricRowUptoRow.holds Try.pinned (OpenSpec.upto fnExactIsSymmetricRowSpec)

/-- 'laws.FnRowScores', WHERE WHAT IT READS IS OF BULK AT MOST 1048576: true; the input reads as it did. -/
def fnRowScoresUptoRow : OpenClaim := { program := "ytjmkmoicjhgfiaa", sum := "d0904673dba46fa66c6da07ef3770c6641feafe2827e3c0f7b414714d5eb217c", func := "loop.example/g01194/laws.FnRowScores", spec := "fnRowScores", unfollowed := true, recurses := true, apart := false, narrowed := true }
def FnRowScoresUptoSaid : Prop := fnRowScoresUptoRow.holds Try.pinned (OpenSpec.upto fnRowScoresSpec)

/-- 'laws.FnExactIsImage', WHERE WHAT IT READS IS OF BULK AT MOST 1048576: true; the input reads as it did. -/
def fnExactIsImageUptoRow : OpenClaim := { program := "ytjmkmoicjhgfiaa", sum := "d0904673dba46fa66c6da07ef3770c6641feafe2827e3c0f7b414714d5eb217c", func := "loop.example/g01194/laws.FnExactIsImage", spec := "fnExactIsImage", unfollowed := true, recurses := true, apart := false, narrowed := true }
def FnExactIsImageUptoSaid : Prop := fnExactIsImageUptoRow.holds Try.pinned (OpenSpec.upto fnExactIsImageSpec)

/-- 'laws.FnExactCountImages', WHERE WHAT IT READS IS OF BULK AT MOST 1048576: true; the input reads as it did. -/
def fnExactCountImagesUptoRow : OpenClaim := { program := "ytjmkmoicjhgfiaa", sum := "d0904673dba46fa66c6da07ef3770c6641feafe2827e3c0f7b414714d5eb217c", func := "loop.example/g01194/laws.FnExactCountImages", spec := "fnExactCountImages", unfollowed := true, recurses := true, apart := false, narrowed := true }
def FnExactCountImagesUptoSaid : Prop := fnExactCountImagesUptoRow.holds Try.pinned (OpenSpec.upto fnExactCountImagesSpec)

/-- 'laws.FnExactRowsBefore', WHERE WHAT IT READS IS OF BULK AT MOST 1048576: true; the input reads as it did. -/
def fnExactRowsBeforeUptoRow : OpenClaim := { program := "ytjmkmoicjhgfiaa", sum := "d0904673dba46fa66c6da07ef3770c6641feafe2827e3c0f7b414714d5eb217c", func := "loop.example/g01194/laws.FnExactRowsBefore", spec := "fnExactRowsBefore", unfollowed := true, recurses := true, apart := false, narrowed := true }
def FnExactRowsBeforeUptoSaid : Prop := fnExactRowsBeforeUptoRow.holds Try.pinned (OpenSpec.upto fnExactRowsBeforeSpec)

/-- 'laws.FnRowsBack', WHERE WHAT IT READS IS OF BULK AT MOST 1048576: true; the input reads as it did. -/
def fnRowsBackUptoRow : OpenClaim := { program := "ytjmkmoicjhgfiaa", sum := "d0904673dba46fa66c6da07ef3770c6641feafe2827e3c0f7b414714d5eb217c", func := "loop.example/g01194/laws.FnRowsBack", spec := "fnRowsBack", unfollowed := true, recurses := true, apart := false, narrowed := true }
def FnRowsBackUptoSaid : Prop := fnRowsBackUptoRow.holds Try.pinned (OpenSpec.upto fnRowsBackSpec)

end Rows
end Go.Proofs.Ytjmkmoicjhgfiaa
