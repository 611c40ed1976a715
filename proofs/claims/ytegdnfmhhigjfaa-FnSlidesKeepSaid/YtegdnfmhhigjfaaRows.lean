/-
  No cell of these rows narrows 'for every input' (looked for: loops, veiled, ifaces, maps, wideKeys, modest, calm, conditions, laid).
  DERIVED. THE GIVEN ROWS OF THIS SEAT. 3 by the template 'for every input the law returns true; each argument reads behind the call as it read before'; 0 by the template 'total and deterministic' (their statements: YtegdnfmhhigjfaaTotals.lean).
  GIVEN WITH THE SEED: the statements are not yours to turn. If you find one false, say at which input.
  Laid BY PROGRAM, IN A SANDBOX (cutbox-rows.mjs): the forced cells as the released guide's own fill.sh prints them over the translation 7293ae8a902cc762… (all of the seat's roots in one cut). By AI agents, Wed Nov 11 2026. No macro, syntax, notation, axiom, sorry.
-/
import Derived.Test.YtegdnfmhhigjfaaChecked
import GoSem.Claim
import GoSem.ClaimJoined
import GoSem.ClaimMapViews
import Derived.JoinedTies
import Derived.KernelRfl
namespace Go.Proofs.Ytegdnfmhhigjfaa
/- THE CELL 'sum', in the pinned program and in every row, IS THE sha256 OF THE DUMP (.gsa) THAT YtegdnfmhhigjfaaProg.lean LOADS. Nothing in Lean hashes anything: it is a label: what it is worth is what the hold of that sum in a sandbox is worth. -/
noncomputable def Try.pinned : Pinned := { name := "ytegdnfmhhigjfaa", sum := "7293ae8a902cc7623365cc7c910b4da15a935919f4a9fd9b93a65c9cae567f9a", checked := Try.checked }
namespace Rows
def none {H : Type} : Left H := { results := [], args := [] }

/-- 'laws.FnFormGroup': WHATEVER THE INPUT: true; the input reads as it did. -/
def fnFormGroupSpec : ChangeSpec := { name := "fnFormGroup", fn := fun _ => fun
  | [d] => { results := [.lit (.bool true)], args := [d] }
  | _ => none }
def fnFormGroupRow : OpenClaim := { program := "ytegdnfmhhigjfaa", sum := "7293ae8a902cc7623365cc7c910b4da15a935919f4a9fd9b93a65c9cae567f9a", func := "loop.example/g01194/laws.FnFormGroup", spec := "fnFormGroup", unfollowed := true, recurses := true, apart := false }
def FnFormGroupSaid : Prop := fnFormGroupRow.holds Try.pinned (OpenSpec.ofChange fnFormGroupSpec)

/-- ITS FALSE NEIGHBOUR: 'it returns false'. Refute it at one input. -/
def fnFormGroupWrong : ChangeSpec := { name := "fnFormGroup", fn := fun _ => fun
  | [d] => { results := [.lit (.bool false)], args := [d] }
  | _ => none }
def FnFormGroupWrongFalsely : Prop := fnFormGroupRow.holds Try.pinned (OpenSpec.ofChange fnFormGroupWrong)

/-- 'laws.FnSlidesKeep': WHATEVER THE INPUT: true; the input reads as it did. -/
def fnSlidesKeepSpec : ChangeSpec := { name := "fnSlidesKeep", fn := fun _ => fun
  | [d] => { results := [.lit (.bool true)], args := [d] }
  | _ => none }
def fnSlidesKeepRow : OpenClaim := { program := "ytegdnfmhhigjfaa", sum := "7293ae8a902cc7623365cc7c910b4da15a935919f4a9fd9b93a65c9cae567f9a", func := "loop.example/g01194/laws.FnSlidesKeep", spec := "fnSlidesKeep", unfollowed := true, recurses := true, apart := false }
def FnSlidesKeepSaid : Prop := fnSlidesKeepRow.holds Try.pinned (OpenSpec.ofChange fnSlidesKeepSpec)

/-- ITS FALSE NEIGHBOUR: 'it returns false'. Refute it at one input. -/
def fnSlidesKeepWrong : ChangeSpec := { name := "fnSlidesKeep", fn := fun _ => fun
  | [d] => { results := [.lit (.bool false)], args := [d] }
  | _ => none }
def FnSlidesKeepWrongFalsely : Prop := fnSlidesKeepRow.holds Try.pinned (OpenSpec.ofChange fnSlidesKeepWrong)

/-- 'laws.FnBoards': WHATEVER THE INPUT: true; the input reads as it did. -/
def fnBoardsSpec : ChangeSpec := { name := "fnBoards", fn := fun _ => fun
  | [d] => { results := [.lit (.bool true)], args := [d] }
  | _ => none }
def fnBoardsRow : OpenClaim := { program := "ytegdnfmhhigjfaa", sum := "7293ae8a902cc7623365cc7c910b4da15a935919f4a9fd9b93a65c9cae567f9a", func := "loop.example/g01194/laws.FnBoards", spec := "fnBoards", inPlace := ["internal/abi.NoEscape", "internal/bytealg.MakeNoZero", "internal/bytealg.IndexByteString"], unfollowed := true, recurses := true, apart := false }
def FnBoardsSaid : Prop := fnBoardsRow.holds Try.pinned (OpenSpec.ofChange fnBoardsSpec)

/-- ITS FALSE NEIGHBOUR: 'it returns false'. Refute it at one input. -/
def fnBoardsWrong : ChangeSpec := { name := "fnBoards", fn := fun _ => fun
  | [d] => { results := [.lit (.bool false)], args := [d] }
  | _ => none }
def FnBoardsWrongFalsely : Prop := fnBoardsRow.holds Try.pinned (OpenSpec.ofChange fnBoardsWrong)

/- THE SECOND FORM. 'bulk': how many values and letters a reading holds, each counted each time it is reached (what is shared counts as often as it is met; a slice's spare places count too). A statement '..UptoSaid' is the law's where the arguments, and the package variables that the reading takes, are together of bulk at most 1048576: NARROWER than '..Said'. Prove '..Said' where nothing that the law and all that it calls make is longer than what came in: it says more and counts as full. Else prove '..UptoSaid'. A law counts once. -/
mutual
def uptoBulk {H : Type} : DataW H → Nat
  | .lit (.string bytes) => bytes.length + 1
  | .lit _ => 1
  | .nil => 1
  | .ptr d => uptoBulk d + 1
  | .slice elems spare => uptoBulkAll elems + uptoBulkAll spare + 1
  | .agg parts => uptoBulkAll parts + 1
  | .iface _ d => uptoBulk d + 1
  | .map entries => uptoBulkEntries entries + 1
  | .held _ => 1
def uptoBulkAll {H : Type} : List (DataW H) → Nat
  | [] => 0
  | d :: r => uptoBulk d + uptoBulkAll r
def uptoBulkEntries {H : Type} : List (Lit × DataW H) → Nat
  | [] => 0
  | x :: r => uptoBulkEntry x + uptoBulkEntries r
def uptoBulkEntry {H : Type} : Lit × DataW H → Nat
  | (.string bytes, d) => bytes.length + uptoBulk d + 1
  | (_, d) => uptoBulk d + 1
 end
def uptoSmall : (H : Type) → List (DataW H) → Bool := fun _ ds => decide (uptoBulkAll ds ≤ 1048576)
def OpenSpec.upto (s : _root_.Go.ChangeSpec) : _root_.Go.OpenSpec := { _root_.Go.OpenSpec.ofChange s with cond := some uptoSmall }

/-- 'laws.FnFormGroup', WHERE WHAT IT READS IS OF BULK AT MOST 1048576: true; the input reads as it did. -/
def fnFormGroupUptoRow : OpenClaim := { program := "ytegdnfmhhigjfaa", sum := "7293ae8a902cc7623365cc7c910b4da15a935919f4a9fd9b93a65c9cae567f9a", func := "loop.example/g01194/laws.FnFormGroup", spec := "fnFormGroup", unfollowed := true, recurses := true, apart := false, narrowed := true }
def FnFormGroupUptoSaid : Prop := fnFormGroupUptoRow.holds Try.pinned (OpenSpec.upto fnFormGroupSpec)

/-- 'laws.FnSlidesKeep', WHERE WHAT IT READS IS OF BULK AT MOST 1048576: true; the input reads as it did. -/
def fnSlidesKeepUptoRow : OpenClaim := { program := "ytegdnfmhhigjfaa", sum := "7293ae8a902cc7623365cc7c910b4da15a935919f4a9fd9b93a65c9cae567f9a", func := "loop.example/g01194/laws.FnSlidesKeep", spec := "fnSlidesKeep", unfollowed := true, recurses := true, apart := false, narrowed := true }
def FnSlidesKeepUptoSaid : Prop := fnSlidesKeepUptoRow.holds Try.pinned (OpenSpec.upto fnSlidesKeepSpec)

/-- 'laws.FnBoards', WHERE WHAT IT READS IS OF BULK AT MOST 1048576: true; the input reads as it did. -/
def fnBoardsUptoRow : OpenClaim := { program := "ytegdnfmhhigjfaa", sum := "7293ae8a902cc7623365cc7c910b4da15a935919f4a9fd9b93a65c9cae567f9a", func := "loop.example/g01194/laws.FnBoards", spec := "fnBoards", inPlace := ["internal/abi.NoEscape", "internal/bytealg.MakeNoZero", "internal/bytealg.IndexByteString"], unfollowed := true, recurses := true, apart := false, narrowed := true }
def FnBoardsUptoSaid : Prop := fnBoardsUptoRow.holds Try.pinned (OpenSpec.upto fnBoardsSpec)

end Rows
end Go.Proofs.Ytegdnfmhhigjfaa
