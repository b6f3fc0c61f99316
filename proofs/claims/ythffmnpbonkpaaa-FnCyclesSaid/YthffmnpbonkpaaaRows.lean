/-
  No cell of these rows narrows 'for every input' (looked for: loops, veiled, ifaces, maps, wideKeys, modest, calm, conditions, laid).
  DERIVED. THE GIVEN ROWS OF THIS SEAT. 9 by the template 'for every input the law returns true; each argument reads behind the call as it read before'; 0 by the template 'total and deterministic' (their statements: YthffmnpbonkpaaaTotals.lean).
  GIVEN WITH THE SEED: the statements are not yours to turn. If you find one false, say at which input.
  Laid BY PROGRAM, IN A SANDBOX (cutbox-rows.mjs): the forced cells as the released guide's own fill.sh prints them over the translation 88a59cb7ecabffaf… (all of the seat's roots in one cut). By AI agents, Wed Nov 11 2026. No macro, syntax, notation, axiom, sorry.
-/
import Derived.Test.YthffmnpbonkpaaaChecked
import GoSem.Claim
import GoSem.ClaimJoined
import GoSem.ClaimMapViews
import Derived.JoinedTies
import Derived.KernelRfl
namespace Go.Proofs.Ythffmnpbonkpaaa
/- THE CELL 'sum', in the pinned program and in every row, IS THE sha256 OF THE DUMP (.gsa) THAT YthffmnpbonkpaaaProg.lean LOADS. Nothing in Lean hashes anything: it is a label: what it is worth is what the hold of that sum in a sandbox is worth. -/
noncomputable def Try.pinned : Pinned := { name := "ythffmnpbonkpaaa", sum := "88a59cb7ecabffafa632e0adb2670f7ec6b0fd5c013edc7f4063c3cb44d0f4f7", checked := Try.checked }
namespace Rows
def none {H : Type} : Left H := { results := [], args := [] }

/-- 'laws.FnPeriods': WHATEVER THE INPUT: true; the input reads as it did. -/
def fnPeriodsSpec : ChangeSpec := { name := "fnPeriods", fn := fun _ => fun
  | [d] => { results := [.lit (.bool true)], args := [d] }
  | _ => none }
def fnPeriodsRow : OpenClaim := { program := "ythffmnpbonkpaaa", sum := "88a59cb7ecabffafa632e0adb2670f7ec6b0fd5c013edc7f4063c3cb44d0f4f7", func := "loop.example/g01035/laws.FnPeriods", spec := "fnPeriods", inPlace := ["slices.overlaps[loop.example/g01035/impl.Event]"], unfollowed := true, recurses := true, apart := false }
def FnPeriodsSaid : Prop := fnPeriodsRow.holds Try.pinned (OpenSpec.ofChange fnPeriodsSpec)

/-- ITS FALSE NEIGHBOUR: 'it returns false'. Refute it at one input. -/
def fnPeriodsWrong : ChangeSpec := { name := "fnPeriods", fn := fun _ => fun
  | [d] => { results := [.lit (.bool false)], args := [d] }
  | _ => none }
def FnPeriodsWrongFalsely : Prop := fnPeriodsRow.holds Try.pinned (OpenSpec.ofChange fnPeriodsWrong)

/-- 'laws.FnRules': WHATEVER THE INPUT: true; the input reads as it did. -/
def fnRulesSpec : ChangeSpec := { name := "fnRules", fn := fun _ => fun
  | [d] => { results := [.lit (.bool true)], args := [d] }
  | _ => none }
def fnRulesRow : OpenClaim := { program := "ythffmnpbonkpaaa", sum := "88a59cb7ecabffafa632e0adb2670f7ec6b0fd5c013edc7f4063c3cb44d0f4f7", func := "loop.example/g01035/laws.FnRules", spec := "fnRules", inPlace := ["slices.overlaps[loop.example/g01035/impl.Rule]"], unfollowed := true, recurses := true, apart := false }
def FnRulesSaid : Prop := fnRulesRow.holds Try.pinned (OpenSpec.ofChange fnRulesSpec)

/-- ITS FALSE NEIGHBOUR: 'it returns false'. Refute it at one input. -/
def fnRulesWrong : ChangeSpec := { name := "fnRules", fn := fun _ => fun
  | [d] => { results := [.lit (.bool false)], args := [d] }
  | _ => none }
def FnRulesWrongFalsely : Prop := fnRulesRow.holds Try.pinned (OpenSpec.ofChange fnRulesWrong)

/-- 'laws.FnDue': WHATEVER THE INPUT: true; the input reads as it did. -/
def fnDueSpec : ChangeSpec := { name := "fnDue", fn := fun _ => fun
  | [d] => { results := [.lit (.bool true)], args := [d] }
  | _ => none }
def fnDueRow : OpenClaim := { program := "ythffmnpbonkpaaa", sum := "88a59cb7ecabffafa632e0adb2670f7ec6b0fd5c013edc7f4063c3cb44d0f4f7", func := "loop.example/g01035/laws.FnDue", spec := "fnDue", unfollowed := true, recurses := true, apart := false }
def FnDueSaid : Prop := fnDueRow.holds Try.pinned (OpenSpec.ofChange fnDueSpec)

/-- ITS FALSE NEIGHBOUR: 'it returns false'. Refute it at one input. -/
def fnDueWrong : ChangeSpec := { name := "fnDue", fn := fun _ => fun
  | [d] => { results := [.lit (.bool false)], args := [d] }
  | _ => none }
def FnDueWrongFalsely : Prop := fnDueRow.holds Try.pinned (OpenSpec.ofChange fnDueWrong)

/-- 'laws.FnPayments': WHATEVER THE INPUT: true; the input reads as it did. -/
def fnPaymentsSpec : ChangeSpec := { name := "fnPayments", fn := fun _ => fun
  | [d] => { results := [.lit (.bool true)], args := [d] }
  | _ => none }
def fnPaymentsRow : OpenClaim := { program := "ythffmnpbonkpaaa", sum := "88a59cb7ecabffafa632e0adb2670f7ec6b0fd5c013edc7f4063c3cb44d0f4f7", func := "loop.example/g01035/laws.FnPayments", spec := "fnPayments", unfollowed := true, recurses := true, apart := false }
def FnPaymentsSaid : Prop := fnPaymentsRow.holds Try.pinned (OpenSpec.ofChange fnPaymentsSpec)

/-- ITS FALSE NEIGHBOUR: 'it returns false'. Refute it at one input. -/
def fnPaymentsWrong : ChangeSpec := { name := "fnPayments", fn := fun _ => fun
  | [d] => { results := [.lit (.bool false)], args := [d] }
  | _ => none }
def FnPaymentsWrongFalsely : Prop := fnPaymentsRow.holds Try.pinned (OpenSpec.ofChange fnPaymentsWrong)

/-- 'laws.FnCycles': WHATEVER THE INPUT: true; the input reads as it did. -/
def fnCyclesSpec : ChangeSpec := { name := "fnCycles", fn := fun _ => fun
  | [d] => { results := [.lit (.bool true)], args := [d] }
  | _ => none }
def fnCyclesRow : OpenClaim := { program := "ythffmnpbonkpaaa", sum := "88a59cb7ecabffafa632e0adb2670f7ec6b0fd5c013edc7f4063c3cb44d0f4f7", func := "loop.example/g01035/laws.FnCycles", spec := "fnCycles", unfollowed := true, recurses := true, apart := false }
def FnCyclesSaid : Prop := fnCyclesRow.holds Try.pinned (OpenSpec.ofChange fnCyclesSpec)

/-- ITS FALSE NEIGHBOUR: 'it returns false'. Refute it at one input. -/
def fnCyclesWrong : ChangeSpec := { name := "fnCycles", fn := fun _ => fun
  | [d] => { results := [.lit (.bool false)], args := [d] }
  | _ => none }
def FnCyclesWrongFalsely : Prop := fnCyclesRow.holds Try.pinned (OpenSpec.ofChange fnCyclesWrong)

/-- 'laws.FnVersions': WHATEVER THE INPUT: true; the input reads as it did. -/
def fnVersionsSpec : ChangeSpec := { name := "fnVersions", fn := fun _ => fun
  | [d] => { results := [.lit (.bool true)], args := [d] }
  | _ => none }
def fnVersionsRow : OpenClaim := { program := "ythffmnpbonkpaaa", sum := "88a59cb7ecabffafa632e0adb2670f7ec6b0fd5c013edc7f4063c3cb44d0f4f7", func := "loop.example/g01035/laws.FnVersions", spec := "fnVersions", unfollowed := true, recurses := true, apart := false }
def FnVersionsSaid : Prop := fnVersionsRow.holds Try.pinned (OpenSpec.ofChange fnVersionsSpec)

/-- ITS FALSE NEIGHBOUR: 'it returns false'. Refute it at one input. -/
def fnVersionsWrong : ChangeSpec := { name := "fnVersions", fn := fun _ => fun
  | [d] => { results := [.lit (.bool false)], args := [d] }
  | _ => none }
def FnVersionsWrongFalsely : Prop := fnVersionsRow.holds Try.pinned (OpenSpec.ofChange fnVersionsWrong)

/-- 'laws.FnSamples': WHATEVER THE INPUT: true; the input reads as it did. -/
def fnSamplesSpec : ChangeSpec := { name := "fnSamples", fn := fun _ => fun
  | [d] => { results := [.lit (.bool true)], args := [d] }
  | _ => none }
def fnSamplesRow : OpenClaim := { program := "ythffmnpbonkpaaa", sum := "88a59cb7ecabffafa632e0adb2670f7ec6b0fd5c013edc7f4063c3cb44d0f4f7", func := "loop.example/g01035/laws.FnSamples", spec := "fnSamples", unfollowed := true, recurses := true, apart := false }
def FnSamplesSaid : Prop := fnSamplesRow.holds Try.pinned (OpenSpec.ofChange fnSamplesSpec)

/-- ITS FALSE NEIGHBOUR: 'it returns false'. Refute it at one input. -/
def fnSamplesWrong : ChangeSpec := { name := "fnSamples", fn := fun _ => fun
  | [d] => { results := [.lit (.bool false)], args := [d] }
  | _ => none }
def FnSamplesWrongFalsely : Prop := fnSamplesRow.holds Try.pinned (OpenSpec.ofChange fnSamplesWrong)

/-- 'laws.FnStrides': WHATEVER THE INPUT: true; the input reads as it did. -/
def fnStridesSpec : ChangeSpec := { name := "fnStrides", fn := fun _ => fun
  | [d] => { results := [.lit (.bool true)], args := [d] }
  | _ => none }
def fnStridesRow : OpenClaim := { program := "ythffmnpbonkpaaa", sum := "88a59cb7ecabffafa632e0adb2670f7ec6b0fd5c013edc7f4063c3cb44d0f4f7", func := "loop.example/g01035/laws.FnStrides", spec := "fnStrides", recurses := true, apart := false }
def FnStridesSaid : Prop := fnStridesRow.holds Try.pinned (OpenSpec.ofChange fnStridesSpec)

/-- ITS FALSE NEIGHBOUR: 'it returns false'. Refute it at one input. -/
def fnStridesWrong : ChangeSpec := { name := "fnStrides", fn := fun _ => fun
  | [d] => { results := [.lit (.bool false)], args := [d] }
  | _ => none }
def FnStridesWrongFalsely : Prop := fnStridesRow.holds Try.pinned (OpenSpec.ofChange fnStridesWrong)

/-- 'laws.FnVersionLists': WHATEVER THE INPUT: true; the input reads as it did. -/
def fnVersionListsSpec : ChangeSpec := { name := "fnVersionLists", fn := fun _ => fun
  | [d] => { results := [.lit (.bool true)], args := [d] }
  | _ => none }
def fnVersionListsRow : OpenClaim := { program := "ythffmnpbonkpaaa", sum := "88a59cb7ecabffafa632e0adb2670f7ec6b0fd5c013edc7f4063c3cb44d0f4f7", func := "loop.example/g01035/laws.FnVersionLists", spec := "fnVersionLists", inPlace := ["slices.overlaps[loop.example/g01035/impl.Version]"], unfollowed := true, recurses := true, apart := false }
def FnVersionListsSaid : Prop := fnVersionListsRow.holds Try.pinned (OpenSpec.ofChange fnVersionListsSpec)

/-- ITS FALSE NEIGHBOUR: 'it returns false'. Refute it at one input. -/
def fnVersionListsWrong : ChangeSpec := { name := "fnVersionLists", fn := fun _ => fun
  | [d] => { results := [.lit (.bool false)], args := [d] }
  | _ => none }
def FnVersionListsWrongFalsely : Prop := fnVersionListsRow.holds Try.pinned (OpenSpec.ofChange fnVersionListsWrong)

/- THE SECOND FORM. 'bulk': how many values and letters a reading holds, each counted each time it is reached (what is shared counts as often as it is met; a slice's spare places count too). A statement '..UptoSaid' is the law's where the arguments, and the package variables that the reading takes, are together of bulk at most 1048576: NARROWER than '..Said'. Prove '..Said' where nothing that the law and all that it calls make is longer than what came in: it says more and counts as full. Else prove '..UptoSaid'. A law counts once. -/
mutual
def uptoBulk {H : Type} : DataW H → Nat
  | .lit (.string bytes) => bytes.length + 1
  | .lit _ => 1
  | .nil => 1
  | .ptr d => uptoBulk d + 1
  | .slice elems spare => uptoBulkAll elems + uptoBulkAll spare + 1
  | .agg parts => uptoBulkAll parts + 1
  | .iface _ d => uptoBulk d + 1
  | .map entries => uptoBulkEntries entries + 1
  | .held _ => 1
def uptoBulkAll {H : Type} : List (DataW H) → Nat
  | [] => 0
  | d :: r => uptoBulk d + uptoBulkAll r
def uptoBulkEntries {H : Type} : List (Lit × DataW H) → Nat
  | [] => 0
  | x :: r => uptoBulkEntry x + uptoBulkEntries r
def uptoBulkEntry {H : Type} : Lit × DataW H → Nat
  | (.string bytes, d) => bytes.length + uptoBulk d + 1
  | (_, d) => uptoBulk d + 1
 end
def uptoSmall : (H : Type) → List (DataW H) → Bool := fun _ ds => decide (uptoBulkAll ds ≤ 1048576)
def OpenSpec.upto (s : _root_.Go.ChangeSpec) : _root_.Go.OpenSpec := { _root_.Go.OpenSpec.ofChange s with cond := some uptoSmall }

/-- 'laws.FnPeriods', WHERE WHAT IT READS IS OF BULK AT MOST 1048576: true; the input reads as it did. -/
def fnPeriodsUptoRow : OpenClaim := { program := "ythffmnpbonkpaaa", sum := "88a59cb7ecabffafa632e0adb2670f7ec6b0fd5c013edc7f4063c3cb44d0f4f7", func := "loop.example/g01035/laws.FnPeriods", spec := "fnPeriods", inPlace := ["slices.overlaps[loop.example/g01035/impl.Event]"], unfollowed := true, recurses := true, apart := false, narrowed := true }
def FnPeriodsUptoSaid : Prop := fnPeriodsUptoRow.holds Try.pinned (OpenSpec.upto fnPeriodsSpec)

/-- 'laws.FnRules', WHERE WHAT IT READS IS OF BULK AT MOST 1048576: true; the input reads as it did. -/
def fnRulesUptoRow : OpenClaim := { program := "ythffmnpbonkpaaa", sum := "88a59cb7ecabffafa632e0adb2670f7ec6b0fd5c013edc7f4063c3cb44d0f4f7", func := "loop.example/g01035/laws.FnRules", spec := "fnRules", inPlace := ["slices.overlaps[loop.example/g01035/impl.Rule]"], unfollowed := true, recurses := true, apart := false, narrowed := true }
def FnRulesUptoSaid : Prop := fnRulesUptoRow.holds Try.pinned (OpenSpec.upto fnRulesSpec)

/-- 'laws.FnDue', WHERE WHAT IT READS IS OF BULK AT MOST 1048576: true; the input reads as it did. -/
def fnDueUptoRow : OpenClaim := { program := "ythffmnpbonkpaaa", sum := "88a59cb7ecabffafa632e0adb2670f7ec6b0fd5c013edc7f4063c3cb44d0f4f7", func := "loop.example/g01035/laws.FnDue", spec := "fnDue", unfollowed := true, recurses := true, apart := false, narrowed := true }
def FnDueUptoSaid : Prop := fnDueUptoRow.holds Try.pinned (OpenSpec.upto fnDueSpec)

/-- 'laws.FnPayments', WHERE WHAT IT READS IS OF BULK AT MOST 1048576: true; the input reads as it did. -/
def fnPaymentsUptoRow : OpenClaim := { program := "ythffmnpbonkpaaa", sum := "88a59cb7ecabffafa632e0adb2670f7ec6b0fd5c013edc7f4063c3cb44d0f4f7", func := "loop.example/g01035/laws.FnPayments", spec := "fnPayments", unfollowed := true, recurses := true, apart := false, narrowed := true }
def FnPaymentsUptoSaid : Prop := fnPaymentsUptoRow.holds Try.pinned (OpenSpec.upto fnPaymentsSpec)

/-- 'laws.FnCycles', WHERE WHAT IT READS IS OF BULK AT MOST 1048576: true; the input reads as it did. -/
def fnCyclesUptoRow : OpenClaim := { program := "ythffmnpbonkpaaa", sum := "88a59cb7ecabffafa632e0adb2670f7ec6b0fd5c013edc7f4063c3cb44d0f4f7", func := "loop.example/g01035/laws.FnCycles", spec := "fnCycles", unfollowed := true, recurses := true, apart := false, narrowed := true }
def FnCyclesUptoSaid : Prop := fnCyclesUptoRow.holds Try.pinned (OpenSpec.upto fnCyclesSpec)

/-- 'laws.FnVersions', WHERE WHAT IT READS IS OF BULK AT MOST 1048576: true; the input reads as it did. -/
def fnVersionsUptoRow : OpenClaim := { program := "ythffmnpbonkpaaa", sum := "88a59cb7ecabffafa632e0adb2670f7ec6b0fd5c013edc7f4063c3cb44d0f4f7", func := "loop.example/g01035/laws.FnVersions", spec := "fnVersions", unfollowed := true, recurses := true, apart := false, narrowed := true }
def FnVersionsUptoSaid : Prop := fnVersionsUptoRow.holds Try.pinned (OpenSpec.upto fnVersionsSpec)

/-- 'laws.FnSamples', WHERE WHAT IT READS IS OF BULK AT MOST 1048576: true; the input reads as it did. -/
def fnSamplesUptoRow : OpenClaim := { program := "ythffmnpbonkpaaa", sum := "88a59cb7ecabffafa632e0adb2670f7ec6b0fd5c013edc7f4063c3cb44d0f4f7", func := "loop.example/g01035/laws.FnSamples", spec := "fnSamples", unfollowed := true, recurses := true, apart := false, narrowed := true }
def FnSamplesUptoSaid : Prop := fnSamplesUptoRow.holds Try.pinned (OpenSpec.upto fnSamplesSpec)

/-- 'laws.FnStrides', WHERE WHAT IT READS IS OF BULK AT MOST 1048576: true; the input reads as it did. -/
def fnStridesUptoRow : OpenClaim := { program := "ythffmnpbonkpaaa", sum := "88a59cb7ecabffafa632e0adb2670f7ec6b0fd5c013edc7f4063c3cb44d0f4f7", func := "loop.example/g01035/laws.FnStrides", spec := "fnStrides", recurses := true, apart := false, narrowed := true }
def FnStridesUptoSaid : Prop := fnStridesUptoRow.holds Try.pinned (OpenSpec.upto fnStridesSpec)

/-- 'laws.FnVersionLists', WHERE WHAT IT READS IS OF BULK AT MOST 1048576: true; the input reads as it did. -/
def fnVersionListsUptoRow : OpenClaim := { program := "ythffmnpbonkpaaa", sum := "88a59cb7ecabffafa632e0adb2670f7ec6b0fd5c013edc7f4063c3cb44d0f4f7", func := "loop.example/g01035/laws.FnVersionLists", spec := "fnVersionLists", inPlace := ["slices.overlaps[loop.example/g01035/impl.Version]"], unfollowed := true, recurses := true, apart := false, narrowed := true }
def FnVersionListsUptoSaid : Prop := fnVersionListsUptoRow.holds Try.pinned (OpenSpec.upto fnVersionListsSpec)

end Rows
end Go.Proofs.Ythffmnpbonkpaaa
