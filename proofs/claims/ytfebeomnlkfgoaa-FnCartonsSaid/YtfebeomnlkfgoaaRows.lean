/-
  No cell of these rows narrows 'for every input' (looked for: loops, veiled, ifaces, maps, wideKeys, modest, calm, conditions, laid).
  DERIVED. THE GIVEN ROWS OF THIS SEAT. 8 by the template 'for every input the law returns true; each argument reads behind the call as it read before'; 0 by the template 'total and deterministic' (their statements: YtfebeomnlkfgoaaTotals.lean).
  GIVEN WITH THE SEED: the statements are not yours to turn. If you find one false, say at which input.
  Laid BY PROGRAM, IN A SANDBOX (cutbox-rows.mjs): the forced cells as the released guide's own fill.sh prints them over the translation c9af83d4f77051e1… (all of the seat's roots in one cut). By AI agents, Wed Nov 11 2026. No macro, syntax, notation, axiom, sorry.
-/
import Derived.Test.YtfebeomnlkfgoaaChecked
import GoSem.Claim
import GoSem.ClaimJoined
import GoSem.ClaimMapViews
import Derived.JoinedTies
import Derived.KernelRfl
namespace Go.Proofs.Ytfebeomnlkfgoaa
/- THE CELL 'sum', in the pinned program and in every row, IS THE sha256 OF THE DUMP (.gsa) THAT YtfebeomnlkfgoaaProg.lean LOADS. Nothing in Lean hashes anything: it is a label: what it is worth is what the hold of that sum in a sandbox is worth. -/
noncomputable def Try.pinned : Pinned := { name := "ytfebeomnlkfgoaa", sum := "c9af83d4f77051e1ed8c88fd09aa169f4416fe6a42355906e25cdeeb15ab0d31", checked := Try.checked }
namespace Rows
def none {H : Type} : Left H := { results := [], args := [] }

/-- 'laws.FnExactBrokenSeals': WHATEVER THE INPUT: true; the input reads as it did. -/
def fnExactBrokenSealsSpec : ChangeSpec := { name := "fnExactBrokenSeals", fn := fun _ => fun
  | [d] => { results := [.lit (.bool true)], args := [d] }
  | _ => none }
def fnExactBrokenSealsRow : OpenClaim := { program := "ytfebeomnlkfgoaa", sum := "c9af83d4f77051e1ed8c88fd09aa169f4416fe6a42355906e25cdeeb15ab0d31", func := "loop.example/g01035/laws.FnExactBrokenSeals", spec := "fnExactBrokenSeals", unfollowed := true, recurses := true, apart := false }
def FnExactBrokenSealsSaid : Prop := fnExactBrokenSealsRow.holds Try.pinned (OpenSpec.ofChange fnExactBrokenSealsSpec)

/-- ITS FALSE NEIGHBOUR: 'it returns false'. Refute it at one input. -/
def fnExactBrokenSealsWrong : ChangeSpec := { name := "fnExactBrokenSeals", fn := fun _ => fun
  | [d] => { results := [.lit (.bool false)], args := [d] }
  | _ => none }
def FnExactBrokenSealsWrongFalsely : Prop := fnExactBrokenSealsRow.holds Try.pinned (OpenSpec.ofChange fnExactBrokenSealsWrong)

/-- 'laws.FnExactEmptyCartons': WHATEVER THE INPUT: true; the input reads as it did. -/
def fnExactEmptyCartonsSpec : ChangeSpec := { name := "fnExactEmptyCartons", fn := fun _ => fun
  | [d] => { results := [.lit (.bool true)], args := [d] }
  | _ => none }
def fnExactEmptyCartonsRow : OpenClaim := { program := "ytfebeomnlkfgoaa", sum := "c9af83d4f77051e1ed8c88fd09aa169f4416fe6a42355906e25cdeeb15ab0d31", func := "loop.example/g01035/laws.FnExactEmptyCartons", spec := "fnExactEmptyCartons", unfollowed := true, recurses := true, apart := false }
def FnExactEmptyCartonsSaid : Prop := fnExactEmptyCartonsRow.holds Try.pinned (OpenSpec.ofChange fnExactEmptyCartonsSpec)

/-- ITS FALSE NEIGHBOUR: 'it returns false'. Refute it at one input. -/
def fnExactEmptyCartonsWrong : ChangeSpec := { name := "fnExactEmptyCartons", fn := fun _ => fun
  | [d] => { results := [.lit (.bool false)], args := [d] }
  | _ => none }
def FnExactEmptyCartonsWrongFalsely : Prop := fnExactEmptyCartonsRow.holds Try.pinned (OpenSpec.ofChange fnExactEmptyCartonsWrong)

/-- 'laws.FnExactRoomLoad': WHATEVER THE INPUT: true; the input reads as it did. -/
def fnExactRoomLoadSpec : ChangeSpec := { name := "fnExactRoomLoad", fn := fun _ => fun
  | [d] => { results := [.lit (.bool true)], args := [d] }
  | _ => none }
def fnExactRoomLoadRow : OpenClaim := { program := "ytfebeomnlkfgoaa", sum := "c9af83d4f77051e1ed8c88fd09aa169f4416fe6a42355906e25cdeeb15ab0d31", func := "loop.example/g01035/laws.FnExactRoomLoad", spec := "fnExactRoomLoad", unfollowed := true, recurses := true, apart := false }
def FnExactRoomLoadSaid : Prop := fnExactRoomLoadRow.holds Try.pinned (OpenSpec.ofChange fnExactRoomLoadSpec)

/-- ITS FALSE NEIGHBOUR: 'it returns false'. Refute it at one input. -/
def fnExactRoomLoadWrong : ChangeSpec := { name := "fnExactRoomLoad", fn := fun _ => fun
  | [d] => { results := [.lit (.bool false)], args := [d] }
  | _ => none }
def FnExactRoomLoadWrongFalsely : Prop := fnExactRoomLoadRow.holds Try.pinned (OpenSpec.ofChange fnExactRoomLoadWrong)

/-- 'laws.FnExactMoveCarton': WHATEVER THE INPUT: true; the input reads as it did. -/
def fnExactMoveCartonSpec : ChangeSpec := { name := "fnExactMoveCarton", fn := fun _ => fun
  | [d1, d2, d3, d4] => { results := [.lit (.bool true)], args := [d1, d2, d3, d4] }
  | _ => none }
def fnExactMoveCartonRow : OpenClaim := { program := "ytfebeomnlkfgoaa", sum := "c9af83d4f77051e1ed8c88fd09aa169f4416fe6a42355906e25cdeeb15ab0d31", func := "loop.example/g01035/laws.FnExactMoveCarton", spec := "fnExactMoveCarton", unfollowed := true, recurses := true, apart := false }
def FnExactMoveCartonSaid : Prop := fnExactMoveCartonRow.holds Try.pinned (OpenSpec.ofChange fnExactMoveCartonSpec)

/-- ITS FALSE NEIGHBOUR: 'it returns false'. Refute it at one input. -/
def fnExactMoveCartonWrong : ChangeSpec := { name := "fnExactMoveCarton", fn := fun _ => fun
  | [d1, d2, d3, d4] => { results := [.lit (.bool false)], args := [d1, d2, d3, d4] }
  | _ => none }
def FnExactMoveCartonWrongFalsely : Prop := fnExactMoveCartonRow.holds Try.pinned (OpenSpec.ofChange fnExactMoveCartonWrong)

/-- 'laws.FnExactPullList': WHATEVER THE INPUT: true; the input reads as it did. -/
def fnExactPullListSpec : ChangeSpec := { name := "fnExactPullList", fn := fun _ => fun
  | [d1, d2] => { results := [.lit (.bool true)], args := [d1, d2] }
  | _ => none }
def fnExactPullListRow : OpenClaim := { program := "ytfebeomnlkfgoaa", sum := "c9af83d4f77051e1ed8c88fd09aa169f4416fe6a42355906e25cdeeb15ab0d31", func := "loop.example/g01035/laws.FnExactPullList", spec := "fnExactPullList", unfollowed := true, recurses := true, apart := false }
def FnExactPullListSaid : Prop := fnExactPullListRow.holds Try.pinned (OpenSpec.ofChange fnExactPullListSpec)

/-- ITS FALSE NEIGHBOUR: 'it returns false'. Refute it at one input. -/
def fnExactPullListWrong : ChangeSpec := { name := "fnExactPullList", fn := fun _ => fun
  | [d1, d2] => { results := [.lit (.bool false)], args := [d1, d2] }
  | _ => none }
def FnExactPullListWrongFalsely : Prop := fnExactPullListRow.holds Try.pinned (OpenSpec.ofChange fnExactPullListWrong)

/-- 'laws.FnExactMergeCartons': WHATEVER THE INPUT: true; the input reads as it did. -/
def fnExactMergeCartonsSpec : ChangeSpec := { name := "fnExactMergeCartons", fn := fun _ => fun
  | [d1, d2, d3] => { results := [.lit (.bool true)], args := [d1, d2, d3] }
  | _ => none }
def fnExactMergeCartonsRow : OpenClaim := { program := "ytfebeomnlkfgoaa", sum := "c9af83d4f77051e1ed8c88fd09aa169f4416fe6a42355906e25cdeeb15ab0d31", func := "loop.example/g01035/laws.FnExactMergeCartons", spec := "fnExactMergeCartons", unfollowed := true, recurses := true, apart := false }
def FnExactMergeCartonsSaid : Prop := fnExactMergeCartonsRow.holds Try.pinned (OpenSpec.ofChange fnExactMergeCartonsSpec)

/-- ITS FALSE NEIGHBOUR: 'it returns false'. Refute it at one input. -/
def fnExactMergeCartonsWrong : ChangeSpec := { name := "fnExactMergeCartons", fn := fun _ => fun
  | [d1, d2, d3] => { results := [.lit (.bool false)], args := [d1, d2, d3] }
  | _ => none }
def FnExactMergeCartonsWrongFalsely : Prop := fnExactMergeCartonsRow.holds Try.pinned (OpenSpec.ofChange fnExactMergeCartonsWrong)

/-- 'laws.FnExactRefileTo': WHATEVER THE INPUT: true; the input reads as it did. -/
def fnExactRefileToSpec : ChangeSpec := { name := "fnExactRefileTo", fn := fun _ => fun
  | [d1, d2, d3] => { results := [.lit (.bool true)], args := [d1, d2, d3] }
  | _ => none }
def fnExactRefileToRow : OpenClaim := { program := "ytfebeomnlkfgoaa", sum := "c9af83d4f77051e1ed8c88fd09aa169f4416fe6a42355906e25cdeeb15ab0d31", func := "loop.example/g01035/laws.FnExactRefileTo", spec := "fnExactRefileTo", unfollowed := true, recurses := true, apart := false }
def FnExactRefileToSaid : Prop := fnExactRefileToRow.holds Try.pinned (OpenSpec.ofChange fnExactRefileToSpec)

/-- ITS FALSE NEIGHBOUR: 'it returns false'. Refute it at one input. -/
def fnExactRefileToWrong : ChangeSpec := { name := "fnExactRefileTo", fn := fun _ => fun
  | [d1, d2, d3] => { results := [.lit (.bool false)], args := [d1, d2, d3] }
  | _ => none }
def FnExactRefileToWrongFalsely : Prop := fnExactRefileToRow.holds Try.pinned (OpenSpec.ofChange fnExactRefileToWrong)

/-- 'laws.FnCartons': WHATEVER THE INPUT: true; the input reads as it did. -/
def fnCartonsSpec : ChangeSpec := { name := "fnCartons", fn := fun _ => fun
  | [d] => { results := [.lit (.bool true)], args := [d] }
  | _ => none }
def fnCartonsRow : OpenClaim := { program := "ytfebeomnlkfgoaa", sum := "c9af83d4f77051e1ed8c88fd09aa169f4416fe6a42355906e25cdeeb15ab0d31", func := "loop.example/g01035/laws.FnCartons", spec := "fnCartons", unfollowed := true, recurses := true, apart := false }
def FnCartonsSaid : Prop := fnCartonsRow.holds Try.pinned (OpenSpec.ofChange fnCartonsSpec)

/-- ITS FALSE NEIGHBOUR: 'it returns false'. Refute it at one input. -/
def fnCartonsWrong : ChangeSpec := { name := "fnCartons", fn := fun _ => fun
  | [d] => { results := [.lit (.bool false)], args := [d] }
  | _ => none }
def FnCartonsWrongFalsely : Prop := fnCartonsRow.holds Try.pinned (OpenSpec.ofChange fnCartonsWrong)

/- THE SECOND FORM. 'bulk': how many values and letters a reading holds, each counted each time it is reached (what is shared counts as often as it is met; a slice's spare places count too). A statement '..UptoSaid' is the law's where the arguments, and the package variables that the reading takes, are together of bulk at most 1048576: NARROWER than '..Said'. Prove '..Said' where nothing that the law and all that it calls make is longer than what came in: it says more and counts as full. Else prove '..UptoSaid'. A law counts once. -/
mutual
def uptoBulk {H : Type} : DataW H → Nat
  | .lit (.string bytes) => bytes.length + 1
  | .lit _ => 1
  | .nil => 1
  | .ptr d => uptoBulk d + 1
  | .slice elems spare => uptoBulkAll elems + uptoBulkAll spare + 1
  | .agg parts => uptoBulkAll parts + 1
  | .iface _ d => uptoBulk d + 1
  | .map entries => uptoBulkEntries entries + 1
  | .held _ => 1
def uptoBulkAll {H : Type} : List (DataW H) → Nat
  | [] => 0
  | d :: r => uptoBulk d + uptoBulkAll r
def uptoBulkEntries {H : Type} : List (Lit × DataW H) → Nat
  | [] => 0
  | x :: r => uptoBulkEntry x + uptoBulkEntries r
def uptoBulkEntry {H : Type} : Lit × DataW H → Nat
  | (.string bytes, d) => bytes.length + uptoBulk d + 1
  | (_, d) => uptoBulk d + 1
 end
def uptoSmall : (H : Type) → List (DataW H) → Bool := fun _ ds => decide (uptoBulkAll ds ≤ 1048576)
def OpenSpec.upto (s : _root_.Go.ChangeSpec) : _root_.Go.OpenSpec := { _root_.Go.OpenSpec.ofChange s with cond := some uptoSmall }

/-- 'laws.FnExactBrokenSeals', WHERE WHAT IT READS IS OF BULK AT MOST 1048576: true; the input reads as it did. -/
def fnExactBrokenSealsUptoRow : OpenClaim := { program := "ytfebeomnlkfgoaa", sum := "c9af83d4f77051e1ed8c88fd09aa169f4416fe6a42355906e25cdeeb15ab0d31", func := "loop.example/g01035/laws.FnExactBrokenSeals", spec := "fnExactBrokenSeals", unfollowed := true, recurses := true, apart := false, narrowed := true }
def FnExactBrokenSealsUptoSaid : Prop := fnExactBrokenSealsUptoRow.holds Try.pinned (OpenSpec.upto fnExactBrokenSealsSpec)

/-- 'laws.FnExactEmptyCartons', WHERE WHAT IT READS IS OF BULK AT MOST 1048576: true; the input reads as it did. -/
def fnExactEmptyCartonsUptoRow : OpenClaim := { program := "ytfebeomnlkfgoaa", sum := "c9af83d4f77051e1ed8c88fd09aa169f4416fe6a42355906e25cdeeb15ab0d31", func := "loop.example/g01035/laws.FnExactEmptyCartons", spec := "fnExactEmptyCartons", unfollowed := true, recurses := true, apart := false, narrowed := true }
def FnExactEmptyCartonsUptoSaid : Prop := fnExactEmptyCartonsUptoRow.holds Try.pinned (OpenSpec.upto fnExactEmptyCartonsSpec)

/-- 'laws.FnExactRoomLoad', WHERE WHAT IT READS IS OF BULK AT MOST 1048576: true; the input reads as it did. -/
def fnExactRoomLoadUptoRow : OpenClaim := { program := "ytfebeomnlkfgoaa", sum := "c9af83d4f77051e1ed8c88fd09aa169f4416fe6a42355906e25cdeeb15ab0d31", func := "loop.example/g01035/laws.FnExactRoomLoad", spec := "fnExactRoomLoad", unfollowed := true, recurses := true, apart := false, narrowed := true }
def FnExactRoomLoadUptoSaid : Prop := fnExactRoomLoadUptoRow.holds Try.pinned (OpenSpec.upto fnExactRoomLoadSpec)

/-- 'laws.FnExactMoveCarton', WHERE WHAT IT READS IS OF BULK AT MOST 1048576: true; the input reads as it did. -/
def fnExactMoveCartonUptoRow : OpenClaim := { program := "ytfebeomnlkfgoaa", sum := "c9af83d4f77051e1ed8c88fd09aa169f4416fe6a42355906e25cdeeb15ab0d31", func := "loop.example/g01035/laws.FnExactMoveCarton", spec := "fnExactMoveCarton", unfollowed := true, recurses := true, apart := false, narrowed := true }
def FnExactMoveCartonUptoSaid : Prop := fnExactMoveCartonUptoRow.holds Try.pinned (OpenSpec.upto fnExactMoveCartonSpec)

/-- 'laws.FnExactPullList', WHERE WHAT IT READS IS OF BULK AT MOST 1048576: true; the input reads as it did. -/
def fnExactPullListUptoRow : OpenClaim := { program := "ytfebeomnlkfgoaa", sum := "c9af83d4f77051e1ed8c88fd09aa169f4416fe6a42355906e25cdeeb15ab0d31", func := "loop.example/g01035/laws.FnExactPullList", spec := "fnExactPullList", unfollowed := true, recurses := true, apart := false, narrowed := true }
def FnExactPullListUptoSaid : Prop := fnExactPullListUptoRow.holds Try.pinned (OpenSpec.upto fnExactPullListSpec)

/-- 'laws.FnExactMergeCartons', WHERE WHAT IT READS IS OF BULK AT MOST 1048576: true; the input reads as it did. -/
def fnExactMergeCartonsUptoRow : OpenClaim := { program := "ytfebeomnlkfgoaa", sum := "c9af83d4f77051e1ed8c88fd09aa169f4416fe6a42355906e25cdeeb15ab0d31", func := "loop.example/g01035/laws.FnExactMergeCartons", spec := "fnExactMergeCartons", unfollowed := true, recurses := true, apart := false, narrowed := true }
def FnExactMergeCartonsUptoSaid : Prop := fnExactMergeCartonsUptoRow.holds Try.pinned (OpenSpec.upto fnExactMergeCartonsSpec)

/-- 'laws.FnExactRefileTo', WHERE WHAT IT READS IS OF BULK AT MOST 1048576: true; the input reads as it did. -/
def fnExactRefileToUptoRow : OpenClaim := { program := "ytfebeomnlkfgoaa", sum := "c9af83d4f77051e1ed8c88fd09aa169f4416fe6a42355906e25cdeeb15ab0d31", func := "loop.example/g01035/laws.FnExactRefileTo", spec := "fnExactRefileTo", unfollowed := true, recurses := true, apart := false, narrowed := true }
def FnExactRefileToUptoSaid : Prop := fnExactRefileToUptoRow.holds Try.pinned (OpenSpec.upto fnExactRefileToSpec)

/-- 'laws.FnCartons', WHERE WHAT IT READS IS OF BULK AT MOST 1048576: true; the input reads as it did. -/
def fnCartonsUptoRow : OpenClaim := { program := "ytfebeomnlkfgoaa", sum := "c9af83d4f77051e1ed8c88fd09aa169f4416fe6a42355906e25cdeeb15ab0d31", func := "loop.example/g01035/laws.FnCartons", spec := "fnCartons", unfollowed := true, recurses := true, apart := false, narrowed := true }
def FnCartonsUptoSaid : Prop := fnCartonsUptoRow.holds Try.pinned (OpenSpec.upto fnCartonsSpec)

end Rows
end Go.Proofs.Ytfebeomnlkfgoaa
