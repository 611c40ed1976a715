/-
  No cell of these rows narrows 'for every input' (looked for: loops, veiled, ifaces, maps, wideKeys, modest, calm, conditions, laid).
  DERIVED. THE GIVEN ROWS OF THIS SEAT. 8 by the template 'for every input the law returns true; each argument reads behind the call as it read before'; 0 by the template 'total and deterministic' (their statements: YtmjehagmgifchaaTotals.lean).
  GIVEN WITH THE SEED: the statements are not yours to turn. If you find one false, say at which input.
  Laid BY PROGRAM, IN A SANDBOX (cutbox-rows.mjs): the forced cells as the released guide's own fill.sh prints them over the translation 4f36b6b9322b4274… (all of the seat's roots in one cut). By AI agents, Wed Nov 11 2026. No macro, syntax, notation, axiom, sorry.
-/
import Derived.Test.YtmjehagmgifchaaChecked
import GoSem.Claim
import GoSem.ClaimJoined
import GoSem.ClaimMapViews
import Derived.JoinedTies
import Derived.KernelRfl
namespace Go.Proofs.Ytmjehagmgifchaa
/- THE CELL 'sum', in the pinned program and in every row, IS THE sha256 OF THE DUMP (.gsa) THAT YtmjehagmgifchaaProg.lean LOADS. Nothing in Lean hashes anything: it is a label: what it is worth is what the hold of that sum in a sandbox is worth. -/
noncomputable def Try.pinned : Pinned := { name := "ytmjehagmgifchaa", sum := "4f36b6b9322b4274fcec8d5c70dc380c66a23ffb295bb8457af001312233bba6", checked := Try.checked }
namespace Rows
def none {H : Type} : Left H := { results := [], args := [] }

/-- 'laws.FnExactParseBoard': WHATEVER THE INPUT: true; the input reads as it did. -/
def fnExactParseBoardSpec : ChangeSpec := { name := "fnExactParseBoard", fn := fun _ => fun
  | [d] => { results := [.lit (.bool true)], args := [d] }
  | _ => none }
def fnExactParseBoardRow : OpenClaim := { program := "ytmjehagmgifchaa", sum := "4f36b6b9322b4274fcec8d5c70dc380c66a23ffb295bb8457af001312233bba6", func := "loop.example/g01194/laws.FnExactParseBoard", spec := "fnExactParseBoard", inPlace := ["internal/bytealg.IndexByteString", "internal/abi.NoEscape", "internal/bytealg.MakeNoZero"], unfollowed := true, recurses := true, apart := false }
def FnExactParseBoardSaid : Prop := fnExactParseBoardRow.holds Try.pinned (OpenSpec.ofChange fnExactParseBoardSpec)

/-- ITS FALSE NEIGHBOUR: 'it returns false'. Refute it at one input. -/
def fnExactParseBoardWrong : ChangeSpec := { name := "fnExactParseBoard", fn := fun _ => fun
  | [d] => { results := [.lit (.bool false)], args := [d] }
  | _ => none }
def FnExactParseBoardWrongFalsely : Prop := fnExactParseBoardRow.holds Try.pinned (OpenSpec.ofChange fnExactParseBoardWrong)

/-- 'laws.FnExactFirstForm': WHATEVER THE INPUT: true; the input reads as it did. -/
def fnExactFirstFormSpec : ChangeSpec := { name := "fnExactFirstForm", fn := fun _ => fun
  | [d] => { results := [.lit (.bool true)], args := [d] }
  | _ => none }
def fnExactFirstFormRow : OpenClaim := { program := "ytmjehagmgifchaa", sum := "4f36b6b9322b4274fcec8d5c70dc380c66a23ffb295bb8457af001312233bba6", func := "loop.example/g01194/laws.FnExactFirstForm", spec := "fnExactFirstForm", unfollowed := true, recurses := true, apart := false }
def FnExactFirstFormSaid : Prop := fnExactFirstFormRow.holds Try.pinned (OpenSpec.ofChange fnExactFirstFormSpec)

/-- ITS FALSE NEIGHBOUR: 'it returns false'. Refute it at one input. -/
def fnExactFirstFormWrong : ChangeSpec := { name := "fnExactFirstForm", fn := fun _ => fun
  | [d] => { results := [.lit (.bool false)], args := [d] }
  | _ => none }
def FnExactFirstFormWrongFalsely : Prop := fnExactFirstFormRow.holds Try.pinned (OpenSpec.ofChange fnExactFirstFormWrong)

/-- 'laws.FnExactDistinctMoves': WHATEVER THE INPUT: true; the input reads as it did. -/
def fnExactDistinctMovesSpec : ChangeSpec := { name := "fnExactDistinctMoves", fn := fun _ => fun
  | [d] => { results := [.lit (.bool true)], args := [d] }
  | _ => none }
def fnExactDistinctMovesRow : OpenClaim := { program := "ytmjehagmgifchaa", sum := "4f36b6b9322b4274fcec8d5c70dc380c66a23ffb295bb8457af001312233bba6", func := "loop.example/g01194/laws.FnExactDistinctMoves", spec := "fnExactDistinctMoves", unfollowed := true, recurses := true, apart := false }
def FnExactDistinctMovesSaid : Prop := fnExactDistinctMovesRow.holds Try.pinned (OpenSpec.ofChange fnExactDistinctMovesSpec)

/-- ITS FALSE NEIGHBOUR: 'it returns false'. Refute it at one input. -/
def fnExactDistinctMovesWrong : ChangeSpec := { name := "fnExactDistinctMoves", fn := fun _ => fun
  | [d] => { results := [.lit (.bool false)], args := [d] }
  | _ => none }
def FnExactDistinctMovesWrongFalsely : Prop := fnExactDistinctMovesRow.holds Try.pinned (OpenSpec.ofChange fnExactDistinctMovesWrong)

/-- 'laws.FnExactCountForms': WHATEVER THE INPUT: true; the input reads as it did. -/
def fnExactCountFormsSpec : ChangeSpec := { name := "fnExactCountForms", fn := fun _ => fun
  | [d] => { results := [.lit (.bool true)], args := [d] }
  | _ => none }
def fnExactCountFormsRow : OpenClaim := { program := "ytmjehagmgifchaa", sum := "4f36b6b9322b4274fcec8d5c70dc380c66a23ffb295bb8457af001312233bba6", func := "loop.example/g01194/laws.FnExactCountForms", spec := "fnExactCountForms", unfollowed := true, recurses := true, apart := false }
def FnExactCountFormsSaid : Prop := fnExactCountFormsRow.holds Try.pinned (OpenSpec.ofChange fnExactCountFormsSpec)

/-- ITS FALSE NEIGHBOUR: 'it returns false'. Refute it at one input. -/
def fnExactCountFormsWrong : ChangeSpec := { name := "fnExactCountForms", fn := fun _ => fun
  | [d] => { results := [.lit (.bool false)], args := [d] }
  | _ => none }
def FnExactCountFormsWrongFalsely : Prop := fnExactCountFormsRow.holds Try.pinned (OpenSpec.ofChange fnExactCountFormsWrong)

/-- 'laws.FnExactFormsOf': WHATEVER THE INPUT: true; the input reads as it did. -/
def fnExactFormsOfSpec : ChangeSpec := { name := "fnExactFormsOf", fn := fun _ => fun
  | [d] => { results := [.lit (.bool true)], args := [d] }
  | _ => none }
def fnExactFormsOfRow : OpenClaim := { program := "ytmjehagmgifchaa", sum := "4f36b6b9322b4274fcec8d5c70dc380c66a23ffb295bb8457af001312233bba6", func := "loop.example/g01194/laws.FnExactFormsOf", spec := "fnExactFormsOf", unfollowed := true, recurses := true, apart := false }
def FnExactFormsOfSaid : Prop := fnExactFormsOfRow.holds Try.pinned (OpenSpec.ofChange fnExactFormsOfSpec)

/-- ITS FALSE NEIGHBOUR: 'it returns false'. Refute it at one input. -/
def fnExactFormsOfWrong : ChangeSpec := { name := "fnExactFormsOf", fn := fun _ => fun
  | [d] => { results := [.lit (.bool false)], args := [d] }
  | _ => none }
def FnExactFormsOfWrongFalsely : Prop := fnExactFormsOfRow.holds Try.pinned (OpenSpec.ofChange fnExactFormsOfWrong)

/-- 'laws.FnFormGroup': WHATEVER THE INPUT: true; the input reads as it did. -/
def fnFormGroupSpec : ChangeSpec := { name := "fnFormGroup", fn := fun _ => fun
  | [d] => { results := [.lit (.bool true)], args := [d] }
  | _ => none }
def fnFormGroupRow : OpenClaim := { program := "ytmjehagmgifchaa", sum := "4f36b6b9322b4274fcec8d5c70dc380c66a23ffb295bb8457af001312233bba6", func := "loop.example/g01194/laws.FnFormGroup", spec := "fnFormGroup", unfollowed := true, recurses := true, apart := false }
def FnFormGroupSaid : Prop := fnFormGroupRow.holds Try.pinned (OpenSpec.ofChange fnFormGroupSpec)

/-- ITS FALSE NEIGHBOUR: 'it returns false'. Refute it at one input. -/
def fnFormGroupWrong : ChangeSpec := { name := "fnFormGroup", fn := fun _ => fun
  | [d] => { results := [.lit (.bool false)], args := [d] }
  | _ => none }
def FnFormGroupWrongFalsely : Prop := fnFormGroupRow.holds Try.pinned (OpenSpec.ofChange fnFormGroupWrong)

/-- 'laws.FnSlidesKeep': WHATEVER THE INPUT: true; the input reads as it did. -/
def fnSlidesKeepSpec : ChangeSpec := { name := "fnSlidesKeep", fn := fun _ => fun
  | [d] => { results := [.lit (.bool true)], args := [d] }
  | _ => none }
def fnSlidesKeepRow : OpenClaim := { program := "ytmjehagmgifchaa", sum := "4f36b6b9322b4274fcec8d5c70dc380c66a23ffb295bb8457af001312233bba6", func := "loop.example/g01194/laws.FnSlidesKeep", spec := "fnSlidesKeep", unfollowed := true, recurses := true, apart := false }
def FnSlidesKeepSaid : Prop := fnSlidesKeepRow.holds Try.pinned (OpenSpec.ofChange fnSlidesKeepSpec)

/-- ITS FALSE NEIGHBOUR: 'it returns false'. Refute it at one input. -/
def fnSlidesKeepWrong : ChangeSpec := { name := "fnSlidesKeep", fn := fun _ => fun
  | [d] => { results := [.lit (.bool false)], args := [d] }
  | _ => none }
def FnSlidesKeepWrongFalsely : Prop := fnSlidesKeepRow.holds Try.pinned (OpenSpec.ofChange fnSlidesKeepWrong)

/-- 'laws.FnBoards': WHATEVER THE INPUT: true; the input reads as it did. -/
def fnBoardsSpec : ChangeSpec := { name := "fnBoards", fn := fun _ => fun
  | [d] => { results := [.lit (.bool true)], args := [d] }
  | _ => none }
def fnBoardsRow : OpenClaim := { program := "ytmjehagmgifchaa", sum := "4f36b6b9322b4274fcec8d5c70dc380c66a23ffb295bb8457af001312233bba6", func := "loop.example/g01194/laws.FnBoards", spec := "fnBoards", inPlace := ["internal/abi.NoEscape", "internal/bytealg.MakeNoZero", "internal/bytealg.IndexByteString"], unfollowed := true, recurses := true, apart := false }
def FnBoardsSaid : Prop := fnBoardsRow.holds Try.pinned (OpenSpec.ofChange fnBoardsSpec)

/-- ITS FALSE NEIGHBOUR: 'it returns false'. Refute it at one input. -/
def fnBoardsWrong : ChangeSpec := { name := "fnBoards", fn := fun _ => fun
  | [d] => { results := [.lit (.bool false)], args := [d] }
  | _ => none }
def FnBoardsWrongFalsely : Prop := fnBoardsRow.holds Try.pinned (OpenSpec.ofChange fnBoardsWrong)

/- THE SECOND FORM. 'bulk': how many values and letters a reading holds, each counted each time it is reached (what is shared counts as often as it is met; a slice's spare places count too). A statement '..UptoSaid' is the law's where the arguments, and the package variables that the reading takes, are together of bulk at most 1048576: NARROWER than '..Said'. Prove '..Said' where nothing that the law and all that it calls make is longer than what came in: it says more and counts as full. Else prove '..UptoSaid'. A law counts once. -/
mutual
def uptoBulk {H : Type} : DataW H → Nat
  | .lit (.string bytes) => bytes.length + 1
  | .lit _ => 1
  | .nil => 1
  | .ptr d => uptoBulk d + 1
  | .slice elems spare => uptoBulkAll elems + uptoBulkAll spare + 1
  | .agg parts => uptoBulkAll parts + 1
  | .iface _ d => uptoBulk d + 1
  | .map entries => uptoBulkEntries entries + 1
  | .held _ => 1
def uptoBulkAll {H : Type} : List (DataW H) → Nat
  | [] => 0
  | d :: r => uptoBulk d + uptoBulkAll r
def uptoBulkEntries {H : Type} : List (Lit × DataW H) → Nat
  | [] => 0
  | x :: r => uptoBulkEntry x + uptoBulkEntries r
def uptoBulkEntry {H : Type} : Lit × DataW H → Nat
  | (.string bytes, d) => bytes.length + uptoBulk d + 1
  | (_, d) => uptoBulk d + 1
 end
def uptoSmall : (H : Type) → List (DataW H) → Bool := fun _ ds => decide (uptoBulkAll ds ≤ 1048576)
def OpenSpec.upto (s : _root_.Go.ChangeSpec) : _root_.Go.OpenSpec := { _root_.Go.OpenSpec.ofChange s with cond := some uptoSmall }

/-- 'laws.FnExactParseBoard', WHERE WHAT IT READS IS OF BULK AT MOST 1048576: true; the input reads as it did. -/
def fnExactParseBoardUptoRow : OpenClaim := { program := "ytmjehagmgifchaa", sum := "4f36b6b9322b4274fcec8d5c70dc380c66a23ffb295bb8457af001312233bba6", func := "loop.example/g01194/laws.FnExactParseBoard", spec := "fnExactParseBoard", inPlace := ["internal/bytealg.IndexByteString", "internal/abi.NoEscape", "internal/bytealg.MakeNoZero"], unfollowed := true, recurses := true, apart := false, narrowed := true }
def FnExactParseBoardUptoSaid : Prop := fnExactParseBoardUptoRow.holds Try.pinned (OpenSpec.upto fnExactParseBoardSpec)

/-- 'laws.FnExactFirstForm', WHERE WHAT IT READS IS OF BULK AT MOST 1048576: true; the input reads as it did. -/
def fnExactFirstFormUptoRow : OpenClaim := { program := "ytmjehagmgifchaa", sum := "4f36b6b9322b4274fcec8d5c70dc380c66a23ffb295bb8457af001312233bba6", func := "loop.example/g01194/laws.FnExactFirstForm", spec := "fnExactFirstForm", unfollowed := true, recurses := true, apart := false, narrowed := true }
def FnExactFirstFormUptoSaid : Prop := fnExactFirstFormUptoRow.holds Try.pinned (OpenSpec.upto fnExactFirstFormSpec)

/-- 'laws.FnExactDistinctMoves', WHERE WHAT IT READS IS OF BULK AT MOST 1048576: true; the input reads as it did. -/
def fnExactDistinctMovesUptoRow : OpenClaim := { program := "ytmjehagmgifchaa", sum := "4f36b6b9322b4274fcec8d5c70dc380c66a23ffb295bb8457af001312233bba6", func := "loop.example/g01194/laws.FnExactDistinctMoves", spec := "fnExactDistinctMoves", unfollowed := true, recurses := true, apart := false, narrowed := true }
def FnExactDistinctMovesUptoSaid : Prop := fnExactDistinctMovesUptoRow.holds Try.pinned (OpenSpec.upto fnExactDistinctMovesSpec)

/-- 'laws.FnExactCountForms', WHERE WHAT IT READS IS OF BULK AT MOST 1048576: true; the input reads as it did. -/
def fnExactCountFormsUptoRow : OpenClaim := { program := "ytmjehagmgifchaa", sum := "4f36b6b9322b4274fcec8d5c70dc380c66a23ffb295bb8457af001312233bba6", func := "loop.example/g01194/laws.FnExactCountForms", spec := "fnExactCountForms", unfollowed := true, recurses := true, apart := false, narrowed := true }
def FnExactCountFormsUptoSaid : Prop := fnExactCountFormsUptoRow.holds Try.pinned (OpenSpec.upto fnExactCountFormsSpec)

/-- 'laws.FnExactFormsOf', WHERE WHAT IT READS IS OF BULK AT MOST 1048576: true; the input reads as it did. -/
def fnExactFormsOfUptoRow : OpenClaim := { program := "ytmjehagmgifchaa", sum := "4f36b6b9322b4274fcec8d5c70dc380c66a23ffb295bb8457af001312233bba6", func := "loop.example/g01194/laws.FnExactFormsOf", spec := "fnExactFormsOf", unfollowed := true, recurses := true, apart := false, narrowed := true }
def FnExactFormsOfUptoSaid : Prop := fnExactFormsOfUptoRow.holds Try.pinned (OpenSpec.upto fnExactFormsOfSpec)

/-- 'laws.FnFormGroup', WHERE WHAT IT READS IS OF BULK AT MOST 1048576: true; the input reads as it did. -/
def fnFormGroupUptoRow : OpenClaim := { program := "ytmjehagmgifchaa", sum := "4f36b6b9322b4274fcec8d5c70dc380c66a23ffb295bb8457af001312233bba6", func := "loop.example/g01194/laws.FnFormGroup", spec := "fnFormGroup", unfollowed := true, recurses := true, apart := false, narrowed := true }
def FnFormGroupUptoSaid : Prop := fnFormGroupUptoRow.holds Try.pinned (OpenSpec.upto fnFormGroupSpec)

/-- 'laws.FnSlidesKeep', WHERE WHAT IT READS IS OF BULK AT MOST 1048576: true; the input reads as it did. -/
def fnSlidesKeepUptoRow : OpenClaim := { program := "ytmjehagmgifchaa", sum := "4f36b6b9322b4274fcec8d5c70dc380c66a23ffb295bb8457af001312233bba6", func := "loop.example/g01194/laws.FnSlidesKeep", spec := "fnSlidesKeep", unfollowed := true, recurses := true, apart := false, narrowed := true }
def FnSlidesKeepUptoSaid : Prop := fnSlidesKeepUptoRow.holds Try.pinned (OpenSpec.upto fnSlidesKeepSpec)

/-- 'laws.FnBoards', WHERE WHAT IT READS IS OF BULK AT MOST 1048576: true; the input reads as it did. -/
def fnBoardsUptoRow : OpenClaim := { program := "ytmjehagmgifchaa", sum := "4f36b6b9322b4274fcec8d5c70dc380c66a23ffb295bb8457af001312233bba6", func := "loop.example/g01194/laws.FnBoards", spec := "fnBoards", inPlace := ["internal/abi.NoEscape", "internal/bytealg.MakeNoZero", "internal/bytealg.IndexByteString"], unfollowed := true, recurses := true, apart := false, narrowed := true }
def FnBoardsUptoSaid : Prop := fnBoardsUptoRow.holds Try.pinned (OpenSpec.upto fnBoardsSpec)

end Rows
end Go.Proofs.Ytmjehagmgifchaa
