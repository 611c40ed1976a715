/-
  No cell of these rows narrows 'for every input' (looked for: loops, veiled, ifaces, maps, wideKeys, modest, calm, conditions, laid).
  DERIVED. THE GIVEN ROWS OF THIS SEAT. 22 by the template 'for every input the law returns true; each argument reads behind the call as it read before'; 0 by the template 'total and deterministic' (their statements: YtjnmdhnckmmdnaaTotals.lean).
  GIVEN WITH THE SEED: the statements are not yours to turn. If you find one false, say at which input.
  Laid BY PROGRAM, IN A SANDBOX (cutbox-rows.mjs): the forced cells as the released guide's own fill.sh prints them over the translation da282aad9f553a6d… (all of the seat's roots in one cut). By AI agents, Wed Nov 11 2026. No macro, syntax, notation, axiom, sorry.
-/
import Derived.Test.YtjnmdhnckmmdnaaChecked
import GoSem.Claim
import GoSem.ClaimJoined
import GoSem.ClaimMapViews
import Derived.JoinedTies
import Derived.KernelRfl
namespace Go.Proofs.Ytjnmdhnckmmdnaa
/- THE CELL 'sum', in the pinned program and in every row, IS THE sha256 OF THE DUMP (.gsa) THAT YtjnmdhnckmmdnaaProg.lean LOADS. Nothing in Lean hashes anything: it is a label: what it is worth is what the hold of that sum in a sandbox is worth. -/
noncomputable def Try.pinned : Pinned := { name := "ytjnmdhnckmmdnaa", sum := "da282aad9f553a6d3c3d309a30950d6d824372d678d473159a4eeee04ff71651", checked := Try.checked }
namespace Rows
def none {H : Type} : Left H := { results := [], args := [] }

/-- 'laws.FnExactFormBehind': WHATEVER THE INPUT: true; the input reads as it did. -/
def fnExactFormBehindSpec : ChangeSpec := { name := "fnExactFormBehind", fn := fun _ => fun
  | [d1, d2] => { results := [.lit (.bool true)], args := [d1, d2] }
  | _ => none }
def fnExactFormBehindRow : OpenClaim := { program := "ytjnmdhnckmmdnaa", sum := "da282aad9f553a6d3c3d309a30950d6d824372d678d473159a4eeee04ff71651", func := "loop.example/g01194/laws.FnExactFormBehind", spec := "fnExactFormBehind", apart := false }
def FnExactFormBehindSaid : Prop := fnExactFormBehindRow.holds Try.pinned (OpenSpec.ofChange fnExactFormBehindSpec)

/-- ITS FALSE NEIGHBOUR: 'it returns false'. Refute it at one input. -/
def fnExactFormBehindWrong : ChangeSpec := { name := "fnExactFormBehind", fn := fun _ => fun
  | [d1, d2] => { results := [.lit (.bool false)], args := [d1, d2] }
  | _ => none }
def FnExactFormBehindWrongFalsely : Prop := fnExactFormBehindRow.holds Try.pinned (OpenSpec.ofChange fnExactFormBehindWrong)

/-- 'laws.FnExactFormBack': WHATEVER THE INPUT: true; the input reads as it did. -/
def fnExactFormBackSpec : ChangeSpec := { name := "fnExactFormBack", fn := fun _ => fun
  | [d] => { results := [.lit (.bool true)], args := [d] }
  | _ => none }
def fnExactFormBackRow : OpenClaim := { program := "ytjnmdhnckmmdnaa", sum := "da282aad9f553a6d3c3d309a30950d6d824372d678d473159a4eeee04ff71651", func := "loop.example/g01194/laws.FnExactFormBack", spec := "fnExactFormBack", apart := false }
def FnExactFormBackSaid : Prop := fnExactFormBackRow.holds Try.pinned (OpenSpec.ofChange fnExactFormBackSpec)

/-- ITS FALSE NEIGHBOUR: 'it returns false'. Refute it at one input. -/
def fnExactFormBackWrong : ChangeSpec := { name := "fnExactFormBack", fn := fun _ => fun
  | [d] => { results := [.lit (.bool false)], args := [d] }
  | _ => none }
def FnExactFormBackWrongFalsely : Prop := fnExactFormBackRow.holds Try.pinned (OpenSpec.ofChange fnExactFormBackWrong)

/-- 'laws.FnExactCountTiles': WHATEVER THE INPUT: true; the input reads as it did. -/
def fnExactCountTilesSpec : ChangeSpec := { name := "fnExactCountTiles", fn := fun _ => fun
  | [d] => { results := [.lit (.bool true)], args := [d] }
  | _ => none }
def fnExactCountTilesRow : OpenClaim := { program := "ytjnmdhnckmmdnaa", sum := "da282aad9f553a6d3c3d309a30950d6d824372d678d473159a4eeee04ff71651", func := "loop.example/g01194/laws.FnExactCountTiles", spec := "fnExactCountTiles", unfollowed := true, recurses := true, apart := false }
def FnExactCountTilesSaid : Prop := fnExactCountTilesRow.holds Try.pinned (OpenSpec.ofChange fnExactCountTilesSpec)

/-- ITS FALSE NEIGHBOUR: 'it returns false'. Refute it at one input. -/
def fnExactCountTilesWrong : ChangeSpec := { name := "fnExactCountTiles", fn := fun _ => fun
  | [d] => { results := [.lit (.bool false)], args := [d] }
  | _ => none }
def FnExactCountTilesWrongFalsely : Prop := fnExactCountTilesRow.holds Try.pinned (OpenSpec.ofChange fnExactCountTilesWrong)

/-- 'laws.FnExactSumOf': WHATEVER THE INPUT: true; the input reads as it did. -/
def fnExactSumOfSpec : ChangeSpec := { name := "fnExactSumOf", fn := fun _ => fun
  | [d] => { results := [.lit (.bool true)], args := [d] }
  | _ => none }
def fnExactSumOfRow : OpenClaim := { program := "ytjnmdhnckmmdnaa", sum := "da282aad9f553a6d3c3d309a30950d6d824372d678d473159a4eeee04ff71651", func := "loop.example/g01194/laws.FnExactSumOf", spec := "fnExactSumOf", unfollowed := true, recurses := true, apart := false }
def FnExactSumOfSaid : Prop := fnExactSumOfRow.holds Try.pinned (OpenSpec.ofChange fnExactSumOfSpec)

/-- ITS FALSE NEIGHBOUR: 'it returns false'. Refute it at one input. -/
def fnExactSumOfWrong : ChangeSpec := { name := "fnExactSumOf", fn := fun _ => fun
  | [d] => { results := [.lit (.bool false)], args := [d] }
  | _ => none }
def FnExactSumOfWrongFalsely : Prop := fnExactSumOfRow.holds Try.pinned (OpenSpec.ofChange fnExactSumOfWrong)

/-- 'laws.FnExactHighestTile': WHATEVER THE INPUT: true; the input reads as it did. -/
def fnExactHighestTileSpec : ChangeSpec := { name := "fnExactHighestTile", fn := fun _ => fun
  | [d] => { results := [.lit (.bool true)], args := [d] }
  | _ => none }
def fnExactHighestTileRow : OpenClaim := { program := "ytjnmdhnckmmdnaa", sum := "da282aad9f553a6d3c3d309a30950d6d824372d678d473159a4eeee04ff71651", func := "loop.example/g01194/laws.FnExactHighestTile", spec := "fnExactHighestTile", unfollowed := true, recurses := true, apart := false }
def FnExactHighestTileSaid : Prop := fnExactHighestTileRow.holds Try.pinned (OpenSpec.ofChange fnExactHighestTileSpec)

/-- ITS FALSE NEIGHBOUR: 'it returns false'. Refute it at one input. -/
def fnExactHighestTileWrong : ChangeSpec := { name := "fnExactHighestTile", fn := fun _ => fun
  | [d] => { results := [.lit (.bool false)], args := [d] }
  | _ => none }
def FnExactHighestTileWrongFalsely : Prop := fnExactHighestTileRow.holds Try.pinned (OpenSpec.ofChange fnExactHighestTileWrong)

/-- 'laws.FnExactTakeTile': WHATEVER THE INPUT: true; the input reads as it did. -/
def fnExactTakeTileSpec : ChangeSpec := { name := "fnExactTakeTile", fn := fun _ => fun
  | [d1, d2] => { results := [.lit (.bool true)], args := [d1, d2] }
  | _ => none }
def fnExactTakeTileRow : OpenClaim := { program := "ytjnmdhnckmmdnaa", sum := "da282aad9f553a6d3c3d309a30950d6d824372d678d473159a4eeee04ff71651", func := "loop.example/g01194/laws.FnExactTakeTile", spec := "fnExactTakeTile", unfollowed := true, recurses := true, apart := false }
def FnExactTakeTileSaid : Prop := fnExactTakeTileRow.holds Try.pinned (OpenSpec.ofChange fnExactTakeTileSpec)

/-- ITS FALSE NEIGHBOUR: 'it returns false'. Refute it at one input. -/
def fnExactTakeTileWrong : ChangeSpec := { name := "fnExactTakeTile", fn := fun _ => fun
  | [d1, d2] => { results := [.lit (.bool false)], args := [d1, d2] }
  | _ => none }
def FnExactTakeTileWrongFalsely : Prop := fnExactTakeTileRow.holds Try.pinned (OpenSpec.ofChange fnExactTakeTileWrong)

/-- 'laws.FnExactPutTile': WHATEVER THE INPUT: true; the input reads as it did. -/
def fnExactPutTileSpec : ChangeSpec := { name := "fnExactPutTile", fn := fun _ => fun
  | [d1, d2, d3] => { results := [.lit (.bool true)], args := [d1, d2, d3] }
  | _ => none }
def fnExactPutTileRow : OpenClaim := { program := "ytjnmdhnckmmdnaa", sum := "da282aad9f553a6d3c3d309a30950d6d824372d678d473159a4eeee04ff71651", func := "loop.example/g01194/laws.FnExactPutTile", spec := "fnExactPutTile", unfollowed := true, recurses := true, apart := false }
def FnExactPutTileSaid : Prop := fnExactPutTileRow.holds Try.pinned (OpenSpec.ofChange fnExactPutTileSpec)

/-- ITS FALSE NEIGHBOUR: 'it returns false'. Refute it at one input. -/
def fnExactPutTileWrong : ChangeSpec := { name := "fnExactPutTile", fn := fun _ => fun
  | [d1, d2, d3] => { results := [.lit (.bool false)], args := [d1, d2, d3] }
  | _ => none }
def FnExactPutTileWrongFalsely : Prop := fnExactPutTileRow.holds Try.pinned (OpenSpec.ofChange fnExactPutTileWrong)

/-- 'laws.FnExactEqualPairs': WHATEVER THE INPUT: true; the input reads as it did. -/
def fnExactEqualPairsSpec : ChangeSpec := { name := "fnExactEqualPairs", fn := fun _ => fun
  | [d] => { results := [.lit (.bool true)], args := [d] }
  | _ => none }
def fnExactEqualPairsRow : OpenClaim := { program := "ytjnmdhnckmmdnaa", sum := "da282aad9f553a6d3c3d309a30950d6d824372d678d473159a4eeee04ff71651", func := "loop.example/g01194/laws.FnExactEqualPairs", spec := "fnExactEqualPairs", unfollowed := true, recurses := true, apart := false }
def FnExactEqualPairsSaid : Prop := fnExactEqualPairsRow.holds Try.pinned (OpenSpec.ofChange fnExactEqualPairsSpec)

/-- ITS FALSE NEIGHBOUR: 'it returns false'. Refute it at one input. -/
def fnExactEqualPairsWrong : ChangeSpec := { name := "fnExactEqualPairs", fn := fun _ => fun
  | [d] => { results := [.lit (.bool false)], args := [d] }
  | _ => none }
def FnExactEqualPairsWrongFalsely : Prop := fnExactEqualPairsRow.holds Try.pinned (OpenSpec.ofChange fnExactEqualPairsWrong)

/-- 'laws.FnExactFormBoard': WHATEVER THE INPUT: true; the input reads as it did. -/
def fnExactFormBoardSpec : ChangeSpec := { name := "fnExactFormBoard", fn := fun _ => fun
  | [d1, d2] => { results := [.lit (.bool true)], args := [d1, d2] }
  | _ => none }
def fnExactFormBoardRow : OpenClaim := { program := "ytjnmdhnckmmdnaa", sum := "da282aad9f553a6d3c3d309a30950d6d824372d678d473159a4eeee04ff71651", func := "loop.example/g01194/laws.FnExactFormBoard", spec := "fnExactFormBoard", unfollowed := true, recurses := true, apart := false }
def FnExactFormBoardSaid : Prop := fnExactFormBoardRow.holds Try.pinned (OpenSpec.ofChange fnExactFormBoardSpec)

/-- ITS FALSE NEIGHBOUR: 'it returns false'. Refute it at one input. -/
def fnExactFormBoardWrong : ChangeSpec := { name := "fnExactFormBoard", fn := fun _ => fun
  | [d1, d2] => { results := [.lit (.bool false)], args := [d1, d2] }
  | _ => none }
def FnExactFormBoardWrongFalsely : Prop := fnExactFormBoardRow.holds Try.pinned (OpenSpec.ofChange fnExactFormBoardWrong)

/-- 'laws.FnExactEmptyCells': WHATEVER THE INPUT: true; the input reads as it did. -/
def fnExactEmptyCellsSpec : ChangeSpec := { name := "fnExactEmptyCells", fn := fun _ => fun
  | [d] => { results := [.lit (.bool true)], args := [d] }
  | _ => none }
def fnExactEmptyCellsRow : OpenClaim := { program := "ytjnmdhnckmmdnaa", sum := "da282aad9f553a6d3c3d309a30950d6d824372d678d473159a4eeee04ff71651", func := "loop.example/g01194/laws.FnExactEmptyCells", spec := "fnExactEmptyCells", unfollowed := true, recurses := true, apart := false }
def FnExactEmptyCellsSaid : Prop := fnExactEmptyCellsRow.holds Try.pinned (OpenSpec.ofChange fnExactEmptyCellsSpec)

/-- ITS FALSE NEIGHBOUR: 'it returns false'. Refute it at one input. -/
def fnExactEmptyCellsWrong : ChangeSpec := { name := "fnExactEmptyCells", fn := fun _ => fun
  | [d] => { results := [.lit (.bool false)], args := [d] }
  | _ => none }
def FnExactEmptyCellsWrongFalsely : Prop := fnExactEmptyCellsRow.holds Try.pinned (OpenSpec.ofChange fnExactEmptyCellsWrong)

/-- 'laws.FnExactLessBoard': WHATEVER THE INPUT: true; the input reads as it did. -/
def fnExactLessBoardSpec : ChangeSpec := { name := "fnExactLessBoard", fn := fun _ => fun
  | [d1, d2] => { results := [.lit (.bool true)], args := [d1, d2] }
  | _ => none }
def fnExactLessBoardRow : OpenClaim := { program := "ytjnmdhnckmmdnaa", sum := "da282aad9f553a6d3c3d309a30950d6d824372d678d473159a4eeee04ff71651", func := "loop.example/g01194/laws.FnExactLessBoard", spec := "fnExactLessBoard", unfollowed := true, recurses := true, apart := false }
def FnExactLessBoardSaid : Prop := fnExactLessBoardRow.holds Try.pinned (OpenSpec.ofChange fnExactLessBoardSpec)

/-- ITS FALSE NEIGHBOUR: 'it returns false'. Refute it at one input. -/
def fnExactLessBoardWrong : ChangeSpec := { name := "fnExactLessBoard", fn := fun _ => fun
  | [d1, d2] => { results := [.lit (.bool false)], args := [d1, d2] }
  | _ => none }
def FnExactLessBoardWrongFalsely : Prop := fnExactLessBoardRow.holds Try.pinned (OpenSpec.ofChange fnExactLessBoardWrong)

/-- 'laws.FnExactFormSide': WHATEVER THE INPUT: true; the input reads as it did. -/
def fnExactFormSideSpec : ChangeSpec := { name := "fnExactFormSide", fn := fun _ => fun
  | [d1, d2] => { results := [.lit (.bool true)], args := [d1, d2] }
  | _ => none }
def fnExactFormSideRow : OpenClaim := { program := "ytjnmdhnckmmdnaa", sum := "da282aad9f553a6d3c3d309a30950d6d824372d678d473159a4eeee04ff71651", func := "loop.example/g01194/laws.FnExactFormSide", spec := "fnExactFormSide", unfollowed := true, recurses := true, apart := false }
def FnExactFormSideSaid : Prop := fnExactFormSideRow.holds Try.pinned (OpenSpec.ofChange fnExactFormSideSpec)

/-- ITS FALSE NEIGHBOUR: 'it returns false'. Refute it at one input. -/
def fnExactFormSideWrong : ChangeSpec := { name := "fnExactFormSide", fn := fun _ => fun
  | [d1, d2] => { results := [.lit (.bool false)], args := [d1, d2] }
  | _ => none }
def FnExactFormSideWrongFalsely : Prop := fnExactFormSideRow.holds Try.pinned (OpenSpec.ofChange fnExactFormSideWrong)

/-- 'laws.FnExactBoardText': WHATEVER THE INPUT: true; the input reads as it did. -/
def fnExactBoardTextSpec : ChangeSpec := { name := "fnExactBoardText", fn := fun _ => fun
  | [d] => { results := [.lit (.bool true)], args := [d] }
  | _ => none }
def fnExactBoardTextRow : OpenClaim := { program := "ytjnmdhnckmmdnaa", sum := "da282aad9f553a6d3c3d309a30950d6d824372d678d473159a4eeee04ff71651", func := "loop.example/g01194/laws.FnExactBoardText", spec := "fnExactBoardText", inPlace := ["internal/abi.NoEscape", "internal/bytealg.MakeNoZero"], unfollowed := true, recurses := true, apart := false }
def FnExactBoardTextSaid : Prop := fnExactBoardTextRow.holds Try.pinned (OpenSpec.ofChange fnExactBoardTextSpec)

/-- ITS FALSE NEIGHBOUR: 'it returns false'. Refute it at one input. -/
def fnExactBoardTextWrong : ChangeSpec := { name := "fnExactBoardText", fn := fun _ => fun
  | [d] => { results := [.lit (.bool false)], args := [d] }
  | _ => none }
def FnExactBoardTextWrongFalsely : Prop := fnExactBoardTextRow.holds Try.pinned (OpenSpec.ofChange fnExactBoardTextWrong)

/-- 'laws.FnExactSymmetriesOf': WHATEVER THE INPUT: true; the input reads as it did. -/
def fnExactSymmetriesOfSpec : ChangeSpec := { name := "fnExactSymmetriesOf", fn := fun _ => fun
  | [d] => { results := [.lit (.bool true)], args := [d] }
  | _ => none }
def fnExactSymmetriesOfRow : OpenClaim := { program := "ytjnmdhnckmmdnaa", sum := "da282aad9f553a6d3c3d309a30950d6d824372d678d473159a4eeee04ff71651", func := "loop.example/g01194/laws.FnExactSymmetriesOf", spec := "fnExactSymmetriesOf", unfollowed := true, recurses := true, apart := false }
def FnExactSymmetriesOfSaid : Prop := fnExactSymmetriesOfRow.holds Try.pinned (OpenSpec.ofChange fnExactSymmetriesOfSpec)

/-- ITS FALSE NEIGHBOUR: 'it returns false'. Refute it at one input. -/
def fnExactSymmetriesOfWrong : ChangeSpec := { name := "fnExactSymmetriesOf", fn := fun _ => fun
  | [d] => { results := [.lit (.bool false)], args := [d] }
  | _ => none }
def FnExactSymmetriesOfWrongFalsely : Prop := fnExactSymmetriesOfRow.holds Try.pinned (OpenSpec.ofChange fnExactSymmetriesOfWrong)

/-- 'laws.FnExactAreSameForm': WHATEVER THE INPUT: true; the input reads as it did. -/
def fnExactAreSameFormSpec : ChangeSpec := { name := "fnExactAreSameForm", fn := fun _ => fun
  | [d1, d2] => { results := [.lit (.bool true)], args := [d1, d2] }
  | _ => none }
def fnExactAreSameFormRow : OpenClaim := { program := "ytjnmdhnckmmdnaa", sum := "da282aad9f553a6d3c3d309a30950d6d824372d678d473159a4eeee04ff71651", func := "loop.example/g01194/laws.FnExactAreSameForm", spec := "fnExactAreSameForm", unfollowed := true, recurses := true, apart := false }
def FnExactAreSameFormSaid : Prop := fnExactAreSameFormRow.holds Try.pinned (OpenSpec.ofChange fnExactAreSameFormSpec)

/-- ITS FALSE NEIGHBOUR: 'it returns false'. Refute it at one input. -/
def fnExactAreSameFormWrong : ChangeSpec := { name := "fnExactAreSameForm", fn := fun _ => fun
  | [d1, d2] => { results := [.lit (.bool false)], args := [d1, d2] }
  | _ => none }
def FnExactAreSameFormWrongFalsely : Prop := fnExactAreSameFormRow.holds Try.pinned (OpenSpec.ofChange fnExactAreSameFormWrong)

/-- 'laws.FnExactDoCommute': WHATEVER THE INPUT: true; the input reads as it did. -/
def fnExactDoCommuteSpec : ChangeSpec := { name := "fnExactDoCommute", fn := fun _ => fun
  | [d1, d2, d3] => { results := [.lit (.bool true)], args := [d1, d2, d3] }
  | _ => none }
def fnExactDoCommuteRow : OpenClaim := { program := "ytjnmdhnckmmdnaa", sum := "da282aad9f553a6d3c3d309a30950d6d824372d678d473159a4eeee04ff71651", func := "loop.example/g01194/laws.FnExactDoCommute", spec := "fnExactDoCommute", unfollowed := true, recurses := true, apart := false }
def FnExactDoCommuteSaid : Prop := fnExactDoCommuteRow.holds Try.pinned (OpenSpec.ofChange fnExactDoCommuteSpec)

/-- ITS FALSE NEIGHBOUR: 'it returns false'. Refute it at one input. -/
def fnExactDoCommuteWrong : ChangeSpec := { name := "fnExactDoCommute", fn := fun _ => fun
  | [d1, d2, d3] => { results := [.lit (.bool false)], args := [d1, d2, d3] }
  | _ => none }
def FnExactDoCommuteWrongFalsely : Prop := fnExactDoCommuteRow.holds Try.pinned (OpenSpec.ofChange fnExactDoCommuteWrong)

/-- 'laws.FnExactMergersOf': WHATEVER THE INPUT: true; the input reads as it did. -/
def fnExactMergersOfSpec : ChangeSpec := { name := "fnExactMergersOf", fn := fun _ => fun
  | [d1, d2] => { results := [.lit (.bool true)], args := [d1, d2] }
  | _ => none }
def fnExactMergersOfRow : OpenClaim := { program := "ytjnmdhnckmmdnaa", sum := "da282aad9f553a6d3c3d309a30950d6d824372d678d473159a4eeee04ff71651", func := "loop.example/g01194/laws.FnExactMergersOf", spec := "fnExactMergersOf", unfollowed := true, recurses := true, apart := false }
def FnExactMergersOfSaid : Prop := fnExactMergersOfRow.holds Try.pinned (OpenSpec.ofChange fnExactMergersOfSpec)

/-- ITS FALSE NEIGHBOUR: 'it returns false'. Refute it at one input. -/
def fnExactMergersOfWrong : ChangeSpec := { name := "fnExactMergersOf", fn := fun _ => fun
  | [d1, d2] => { results := [.lit (.bool false)], args := [d1, d2] }
  | _ => none }
def FnExactMergersOfWrongFalsely : Prop := fnExactMergersOfRow.holds Try.pinned (OpenSpec.ofChange fnExactMergersOfWrong)

/-- 'laws.FnExactIsOver': WHATEVER THE INPUT: true; the input reads as it did. -/
def fnExactIsOverSpec : ChangeSpec := { name := "fnExactIsOver", fn := fun _ => fun
  | [d] => { results := [.lit (.bool true)], args := [d] }
  | _ => none }
def fnExactIsOverRow : OpenClaim := { program := "ytjnmdhnckmmdnaa", sum := "da282aad9f553a6d3c3d309a30950d6d824372d678d473159a4eeee04ff71651", func := "loop.example/g01194/laws.FnExactIsOver", spec := "fnExactIsOver", unfollowed := true, recurses := true, apart := false }
def FnExactIsOverSaid : Prop := fnExactIsOverRow.holds Try.pinned (OpenSpec.ofChange fnExactIsOverSpec)

/-- ITS FALSE NEIGHBOUR: 'it returns false'. Refute it at one input. -/
def fnExactIsOverWrong : ChangeSpec := { name := "fnExactIsOver", fn := fun _ => fun
  | [d] => { results := [.lit (.bool false)], args := [d] }
  | _ => none }
def FnExactIsOverWrongFalsely : Prop := fnExactIsOverRow.holds Try.pinned (OpenSpec.ofChange fnExactIsOverWrong)

/-- 'laws.FnExactMovesOf': WHATEVER THE INPUT: true; the input reads as it did. -/
def fnExactMovesOfSpec : ChangeSpec := { name := "fnExactMovesOf", fn := fun _ => fun
  | [d] => { results := [.lit (.bool true)], args := [d] }
  | _ => none }
def fnExactMovesOfRow : OpenClaim := { program := "ytjnmdhnckmmdnaa", sum := "da282aad9f553a6d3c3d309a30950d6d824372d678d473159a4eeee04ff71651", func := "loop.example/g01194/laws.FnExactMovesOf", spec := "fnExactMovesOf", unfollowed := true, recurses := true, apart := false }
def FnExactMovesOfSaid : Prop := fnExactMovesOfRow.holds Try.pinned (OpenSpec.ofChange fnExactMovesOfSpec)

/-- ITS FALSE NEIGHBOUR: 'it returns false'. Refute it at one input. -/
def fnExactMovesOfWrong : ChangeSpec := { name := "fnExactMovesOf", fn := fun _ => fun
  | [d] => { results := [.lit (.bool false)], args := [d] }
  | _ => none }
def FnExactMovesOfWrongFalsely : Prop := fnExactMovesOfRow.holds Try.pinned (OpenSpec.ofChange fnExactMovesOfWrong)

/-- 'laws.FnExactCommutingPairs': WHATEVER THE INPUT: true; the input reads as it did. -/
def fnExactCommutingPairsSpec : ChangeSpec := { name := "fnExactCommutingPairs", fn := fun _ => fun
  | [d] => { results := [.lit (.bool true)], args := [d] }
  | _ => none }
def fnExactCommutingPairsRow : OpenClaim := { program := "ytjnmdhnckmmdnaa", sum := "da282aad9f553a6d3c3d309a30950d6d824372d678d473159a4eeee04ff71651", func := "loop.example/g01194/laws.FnExactCommutingPairs", spec := "fnExactCommutingPairs", unfollowed := true, recurses := true, apart := false }
def FnExactCommutingPairsSaid : Prop := fnExactCommutingPairsRow.holds Try.pinned (OpenSpec.ofChange fnExactCommutingPairsSpec)

/-- ITS FALSE NEIGHBOUR: 'it returns false'. Refute it at one input. -/
def fnExactCommutingPairsWrong : ChangeSpec := { name := "fnExactCommutingPairs", fn := fun _ => fun
  | [d] => { results := [.lit (.bool false)], args := [d] }
  | _ => none }
def FnExactCommutingPairsWrongFalsely : Prop := fnExactCommutingPairsRow.holds Try.pinned (OpenSpec.ofChange fnExactCommutingPairsWrong)

/-- 'laws.FnExactSlideCycle': WHATEVER THE INPUT: true; the input reads as it did. -/
def fnExactSlideCycleSpec : ChangeSpec := { name := "fnExactSlideCycle", fn := fun _ => fun
  | [d1, d2] => { results := [.lit (.bool true)], args := [d1, d2] }
  | _ => none }
def fnExactSlideCycleRow : OpenClaim := { program := "ytjnmdhnckmmdnaa", sum := "da282aad9f553a6d3c3d309a30950d6d824372d678d473159a4eeee04ff71651", func := "loop.example/g01194/laws.FnExactSlideCycle", spec := "fnExactSlideCycle", unfollowed := true, recurses := true, apart := false }
def FnExactSlideCycleSaid : Prop := fnExactSlideCycleRow.holds Try.pinned (OpenSpec.ofChange fnExactSlideCycleSpec)

/-- ITS FALSE NEIGHBOUR: 'it returns false'. Refute it at one input. -/
def fnExactSlideCycleWrong : ChangeSpec := { name := "fnExactSlideCycle", fn := fun _ => fun
  | [d1, d2] => { results := [.lit (.bool false)], args := [d1, d2] }
  | _ => none }
def FnExactSlideCycleWrongFalsely : Prop := fnExactSlideCycleRow.holds Try.pinned (OpenSpec.ofChange fnExactSlideCycleWrong)

/-- 'laws.FnExactDoSlides': WHATEVER THE INPUT: true; the input reads as it did. -/
def fnExactDoSlidesSpec : ChangeSpec := { name := "fnExactDoSlides", fn := fun _ => fun
  | [d1, d2] => { results := [.lit (.bool true)], args := [d1, d2] }
  | _ => none }
def fnExactDoSlidesRow : OpenClaim := { program := "ytjnmdhnckmmdnaa", sum := "da282aad9f553a6d3c3d309a30950d6d824372d678d473159a4eeee04ff71651", func := "loop.example/g01194/laws.FnExactDoSlides", spec := "fnExactDoSlides", unfollowed := true, recurses := true, apart := false }
def FnExactDoSlidesSaid : Prop := fnExactDoSlidesRow.holds Try.pinned (OpenSpec.ofChange fnExactDoSlidesSpec)

/-- ITS FALSE NEIGHBOUR: 'it returns false'. Refute it at one input. -/
def fnExactDoSlidesWrong : ChangeSpec := { name := "fnExactDoSlides", fn := fun _ => fun
  | [d1, d2] => { results := [.lit (.bool false)], args := [d1, d2] }
  | _ => none }
def FnExactDoSlidesWrongFalsely : Prop := fnExactDoSlidesRow.holds Try.pinned (OpenSpec.ofChange fnExactDoSlidesWrong)

/- THE SECOND FORM. 'bulk': how many values and letters a reading holds, each counted each time it is reached (what is shared counts as often as it is met; a slice's spare places count too). A statement '..UptoSaid' is the law's where the arguments, and the package variables that the reading takes, are together of bulk at most 1048576: NARROWER than '..Said'. Prove '..Said' where nothing that the law and all that it calls make is longer than what came in: it says more and counts as full. Else prove '..UptoSaid'. A law counts once. -/
mutual
def uptoBulk {H : Type} : DataW H → Nat
  | .lit (.string bytes) => bytes.length + 1
  | .lit _ => 1
  | .nil => 1
  | .ptr d => uptoBulk d + 1
  | .slice elems spare => uptoBulkAll elems + uptoBulkAll spare + 1
  | .agg parts => uptoBulkAll parts + 1
  | .iface _ d => uptoBulk d + 1
  | .map entries => uptoBulkEntries entries + 1
  | .held _ => 1
def uptoBulkAll {H : Type} : List (DataW H) → Nat
  | [] => 0
  | d :: r => uptoBulk d + uptoBulkAll r
def uptoBulkEntries {H : Type} : List (Lit × DataW H) → Nat
  | [] => 0
  | x :: r => uptoBulkEntry x + uptoBulkEntries r
def uptoBulkEntry {H : Type} : Lit × DataW H → Nat
  | (.string bytes, d) => bytes.length + uptoBulk d + 1
  | (_, d) => uptoBulk d + 1
 end
def uptoSmall : (H : Type) → List (DataW H) → Bool := fun _ ds => decide (uptoBulkAll ds ≤ 1048576)
def OpenSpec.upto (s : _root_.Go.ChangeSpec) : _root_.Go.OpenSpec := { _root_.Go.OpenSpec.ofChange s with cond := some uptoSmall }

/-- 'laws.FnExactFormBehind', WHERE WHAT IT READS IS OF BULK AT MOST 1048576: true; the input reads as it did. -/
def fnExactFormBehindUptoRow : OpenClaim := { program := "ytjnmdhnckmmdnaa", sum := "da282aad9f553a6d3c3d309a30950d6d824372d678d473159a4eeee04ff71651", func := "loop.example/g01194/laws.FnExactFormBehind", spec := "fnExactFormBehind", apart := false, narrowed := true }
def FnExactFormBehindUptoSaid : Prop := fnExactFormBehindUptoRow.holds Try.pinned (OpenSpec.upto fnExactFormBehindSpec)

/-- 'laws.FnExactFormBack', WHERE WHAT IT READS IS OF BULK AT MOST 1048576: true; the input reads as it did. -/
def fnExactFormBackUptoRow : OpenClaim := { program := "ytjnmdhnckmmdnaa", sum := "da282aad9f553a6d3c3d309a30950d6d824372d678d473159a4eeee04ff71651", func := "loop.example/g01194/laws.FnExactFormBack", spec := "fnExactFormBack", apart := false, narrowed := true }
def FnExactFormBackUptoSaid : Prop := fnExactFormBackUptoRow.holds Try.pinned (OpenSpec.upto fnExactFormBackSpec)

/-- 'laws.FnExactCountTiles', WHERE WHAT IT READS IS OF BULK AT MOST 1048576: true; the input reads as it did. -/
def fnExactCountTilesUptoRow : OpenClaim := { program := "ytjnmdhnckmmdnaa", sum := "da282aad9f553a6d3c3d309a30950d6d824372d678d473159a4eeee04ff71651", func := "loop.example/g01194/laws.FnExactCountTiles", spec := "fnExactCountTiles", unfollowed := true, recurses := true, apart := false, narrowed := true }
def FnExactCountTilesUptoSaid : Prop := fnExactCountTilesUptoRow.holds Try.pinned (OpenSpec.upto fnExactCountTilesSpec)

/-- 'laws.FnExactSumOf', WHERE WHAT IT READS IS OF BULK AT MOST 1048576: true; the input reads as it did. -/
def fnExactSumOfUptoRow : OpenClaim := { program := "ytjnmdhnckmmdnaa", sum := "da282aad9f553a6d3c3d309a30950d6d824372d678d473159a4eeee04ff71651", func := "loop.example/g01194/laws.FnExactSumOf", spec := "fnExactSumOf", unfollowed := true, recurses := true, apart := false, narrowed := true }
def FnExactSumOfUptoSaid : Prop := fnExactSumOfUptoRow.holds Try.pinned (OpenSpec.upto fnExactSumOfSpec)

/-- 'laws.FnExactHighestTile', WHERE WHAT IT READS IS OF BULK AT MOST 1048576: true; the input reads as it did. -/
def fnExactHighestTileUptoRow : OpenClaim := { program := "ytjnmdhnckmmdnaa", sum := "da282aad9f553a6d3c3d309a30950d6d824372d678d473159a4eeee04ff71651", func := "loop.example/g01194/laws.FnExactHighestTile", spec := "fnExactHighestTile", unfollowed := true, recurses := true, apart := false, narrowed := true }
def FnExactHighestTileUptoSaid : Prop := fnExactHighestTileUptoRow.holds Try.pinned (OpenSpec.upto fnExactHighestTileSpec)

/-- 'laws.FnExactTakeTile', WHERE WHAT IT READS IS OF BULK AT MOST 1048576: true; the input reads as it did. -/
def fnExactTakeTileUptoRow : OpenClaim := { program := "ytjnmdhnckmmdnaa", sum := "da282aad9f553a6d3c3d309a30950d6d824372d678d473159a4eeee04ff71651", func := "loop.example/g01194/laws.FnExactTakeTile", spec := "fnExactTakeTile", unfollowed := true, recurses := true, apart := false, narrowed := true }
def FnExactTakeTileUptoSaid : Prop := fnExactTakeTileUptoRow.holds Try.pinned (OpenSpec.upto fnExactTakeTileSpec)

/-- 'laws.FnExactPutTile', WHERE WHAT IT READS IS OF BULK AT MOST 1048576: true; the input reads as it did. -/
def fnExactPutTileUptoRow : OpenClaim := { program := "ytjnmdhnckmmdnaa", sum := "da282aad9f553a6d3c3d309a30950d6d824372d678d473159a4eeee04ff71651", func := "loop.example/g01194/laws.FnExactPutTile", spec := "fnExactPutTile", unfollowed := true, recurses := true, apart := false, narrowed := true }
def FnExactPutTileUptoSaid : Prop := fnExactPutTileUptoRow.holds Try.pinned (OpenSpec.upto fnExactPutTileSpec)

/-- 'laws.FnExactEqualPairs', WHERE WHAT IT READS IS OF BULK AT MOST 1048576: true; the input reads as it did. -/
def fnExactEqualPairsUptoRow : OpenClaim := { program := "ytjnmdhnckmmdnaa", sum := "da282aad9f553a6d3c3d309a30950d6d824372d678d473159a4eeee04ff71651", func := "loop.example/g01194/laws.FnExactEqualPairs", spec := "fnExactEqualPairs", unfollowed := true, recurses := true, apart := false, narrowed := true }
def FnExactEqualPairsUptoSaid : Prop := fnExactEqualPairsUptoRow.holds Try.pinned (OpenSpec.upto fnExactEqualPairsSpec)

/-- 'laws.FnExactFormBoard', WHERE WHAT IT READS IS OF BULK AT MOST 1048576: true; the input reads as it did. -/
def fnExactFormBoardUptoRow : OpenClaim := { program := "ytjnmdhnckmmdnaa", sum := "da282aad9f553a6d3c3d309a30950d6d824372d678d473159a4eeee04ff71651", func := "loop.example/g01194/laws.FnExactFormBoard", spec := "fnExactFormBoard", unfollowed := true, recurses := true, apart := false, narrowed := true }
def FnExactFormBoardUptoSaid : Prop := fnExactFormBoardUptoRow.holds Try.pinned (OpenSpec.upto fnExactFormBoardSpec)

/-- 'laws.FnExactEmptyCells', WHERE WHAT IT READS IS OF BULK AT MOST 1048576: true; the input reads as it did. -/
def fnExactEmptyCellsUptoRow : OpenClaim := { program := "ytjnmdhnckmmdnaa", sum := "da282aad9f553a6d3c3d309a30950d6d824372d678d473159a4eeee04ff71651", func := "loop.example/g01194/laws.FnExactEmptyCells", spec := "fnExactEmptyCells", unfollowed := true, recurses := true, apart := false, narrowed := true }
def FnExactEmptyCellsUptoSaid : Prop := fnExactEmptyCellsUptoRow.holds Try.pinned (OpenSpec.upto fnExactEmptyCellsSpec)

/-- 'laws.FnExactLessBoard', WHERE WHAT IT READS IS OF BULK AT MOST 1048576: true; the input reads as it did. -/
def fnExactLessBoardUptoRow : OpenClaim := { program := "ytjnmdhnckmmdnaa", sum := "da282aad9f553a6d3c3d309a30950d6d824372d678d473159a4eeee04ff71651", func := "loop.example/g01194/laws.FnExactLessBoard", spec := "fnExactLessBoard", unfollowed := true, recurses := true, apart := false, narrowed := true }
def FnExactLessBoardUptoSaid : Prop := fnExactLessBoardUptoRow.holds Try.pinned (OpenSpec.upto fnExactLessBoardSpec)

/-- 'laws.FnExactFormSide', WHERE WHAT IT READS IS OF BULK AT MOST 1048576: true; the input reads as it did. -/
def fnExactFormSideUptoRow : OpenClaim := { program := "ytjnmdhnckmmdnaa", sum := "da282aad9f553a6d3c3d309a30950d6d824372d678d473159a4eeee04ff71651", func := "loop.example/g01194/laws.FnExactFormSide", spec := "fnExactFormSide", unfollowed := true, recurses := true, apart := false, narrowed := true }
def FnExactFormSideUptoSaid : Prop := fnExactFormSideUptoRow.holds Try.pinned (OpenSpec.upto fnExactFormSideSpec)

/-- 'laws.FnExactBoardText', WHERE WHAT IT READS IS OF BULK AT MOST 1048576: true; the input reads as it did. -/
def fnExactBoardTextUptoRow : OpenClaim := { program := "ytjnmdhnckmmdnaa", sum := "da282aad9f553a6d3c3d309a30950d6d824372d678d473159a4eeee04ff71651", func := "loop.example/g01194/laws.FnExactBoardText", spec := "fnExactBoardText", inPlace := ["internal/abi.NoEscape", "internal/bytealg.MakeNoZero"], unfollowed := true, recurses := true, apart := false, narrowed := true }
def FnExactBoardTextUptoSaid : Prop := fnExactBoardTextUptoRow.holds Try.pinned (OpenSpec.upto fnExactBoardTextSpec)

/-- 'laws.FnExactSymmetriesOf', WHERE WHAT IT READS IS OF BULK AT MOST 1048576: true; the input reads as it did. -/
def fnExactSymmetriesOfUptoRow : OpenClaim := { program := "ytjnmdhnckmmdnaa", sum := "da282aad9f553a6d3c3d309a30950d6d824372d678d473159a4eeee04ff71651", func := "loop.example/g01194/laws.FnExactSymmetriesOf", spec := "fnExactSymmetriesOf", unfollowed := true, recurses := true, apart := false, narrowed := true }
def FnExactSymmetriesOfUptoSaid : Prop := fnExactSymmetriesOfUptoRow.holds Try.pinned (OpenSpec.upto fnExactSymmetriesOfSpec)

/-- 'laws.FnExactAreSameForm', WHERE WHAT IT READS IS OF BULK AT MOST 1048576: true; the input reads as it did. -/
def fnExactAreSameFormUptoRow : OpenClaim := { program := "ytjnmdhnckmmdnaa", sum := "da282aad9f553a6d3c3d309a30950d6d824372d678d473159a4eeee04ff71651", func := "loop.example/g01194/laws.FnExactAreSameForm", spec := "fnExactAreSameForm", unfollowed := true, recurses := true, apart := false, narrowed := true }
def FnExactAreSameFormUptoSaid : Prop := fnExactAreSameFormUptoRow.holds Try.pinned (OpenSpec.upto fnExactAreSameFormSpec)

/-- 'laws.FnExactDoCommute', WHERE WHAT IT READS IS OF BULK AT MOST 1048576: true; the input reads as it did. -/
def fnExactDoCommuteUptoRow : OpenClaim := { program := "ytjnmdhnckmmdnaa", sum := "da282aad9f553a6d3c3d309a30950d6d824372d678d473159a4eeee04ff71651", func := "loop.example/g01194/laws.FnExactDoCommute", spec := "fnExactDoCommute", unfollowed := true, recurses := true, apart := false, narrowed := true }
def FnExactDoCommuteUptoSaid : Prop := fnExactDoCommuteUptoRow.holds Try.pinned (OpenSpec.upto fnExactDoCommuteSpec)

/-- 'laws.FnExactMergersOf', WHERE WHAT IT READS IS OF BULK AT MOST 1048576: true; the input reads as it did. -/
def fnExactMergersOfUptoRow : OpenClaim := { program := "ytjnmdhnckmmdnaa", sum := "da282aad9f553a6d3c3d309a30950d6d824372d678d473159a4eeee04ff71651", func := "loop.example/g01194/laws.FnExactMergersOf", spec := "fnExactMergersOf", unfollowed := true, recurses := true, apart := false, narrowed := true }
def FnExactMergersOfUptoSaid : Prop := fnExactMergersOfUptoRow.holds Try.pinned (OpenSpec.upto fnExactMergersOfSpec)

/-- 'laws.FnExactIsOver', WHERE WHAT IT READS IS OF BULK AT MOST 1048576: true; the input reads as it did. -/
def fnExactIsOverUptoRow : OpenClaim := { program := "ytjnmdhnckmmdnaa", sum := "da282aad9f553a6d3c3d309a30950d6d824372d678d473159a4eeee04ff71651", func := "loop.example/g01194/laws.FnExactIsOver", spec := "fnExactIsOver", unfollowed := true, recurses := true, apart := false, narrowed := true }
def FnExactIsOverUptoSaid : Prop := fnExactIsOverUptoRow.holds Try.pinned (OpenSpec.upto fnExactIsOverSpec)

/-- 'laws.FnExactMovesOf', WHERE WHAT IT READS IS OF BULK AT MOST 1048576: true; the input reads as it did. -/
def fnExactMovesOfUptoRow : OpenClaim := { program := "ytjnmdhnckmmdnaa", sum := "da282aad9f553a6d3c3d309a30950d6d824372d678d473159a4eeee04ff71651", func := "loop.example/g01194/laws.FnExactMovesOf", spec := "fnExactMovesOf", unfollowed := true, recurses := true, apart := false, narrowed := true }
def FnExactMovesOfUptoSaid : Prop := fnExactMovesOfUptoRow.holds Try.pinned (OpenSpec.upto fnExactMovesOfSpec)

/-- 'laws.FnExactCommutingPairs', WHERE WHAT IT READS IS OF BULK AT MOST 1048576: true; the input reads as it did. -/
def fnExactCommutingPairsUptoRow : OpenClaim := { program := "ytjnmdhnckmmdnaa", sum := "da282aad9f553a6d3c3d309a30950d6d824372d678d473159a4eeee04ff71651", func := "loop.example/g01194/laws.FnExactCommutingPairs", spec := "fnExactCommutingPairs", unfollowed := true, recurses := true, apart := false, narrowed := true }
def FnExactCommutingPairsUptoSaid : Prop := fnExactCommutingPairsUptoRow.holds Try.pinned (OpenSpec.upto fnExactCommutingPairsSpec)

/-- 'laws.FnExactSlideCycle', WHERE WHAT IT READS IS OF BULK AT MOST 1048576: true; the input reads as it did. -/
def fnExactSlideCycleUptoRow : OpenClaim := { program := "ytjnmdhnckmmdnaa", sum := "da282aad9f553a6d3c3d309a30950d6d824372d678d473159a4eeee04ff71651", func := "loop.example/g01194/laws.FnExactSlideCycle", spec := "fnExactSlideCycle", unfollowed := true, recurses := true, apart := false, narrowed := true }
def FnExactSlideCycleUptoSaid : Prop := fnExactSlideCycleUptoRow.holds Try.pinned (OpenSpec.upto fnExactSlideCycleSpec)

/-- 'laws.FnExactDoSlides', WHERE WHAT IT READS IS OF BULK AT MOST 1048576: true; the input reads as it did. -/
def fnExactDoSlidesUptoRow : OpenClaim := { program := "ytjnmdhnckmmdnaa", sum := "da282aad9f553a6d3c3d309a30950d6d824372d678d473159a4eeee04ff71651", func := "loop.example/g01194/laws.FnExactDoSlides", spec := "fnExactDoSlides", unfollowed := true, recurses := true, apart := false, narrowed := true }
def FnExactDoSlidesUptoSaid : Prop := fnExactDoSlidesUptoRow.holds Try.pinned (OpenSpec.upto fnExactDoSlidesSpec)

end Rows
end Go.Proofs.Ytjnmdhnckmmdnaa
