/-
  No cell of these rows narrows 'for every input' (looked for: loops, veiled, ifaces, maps, wideKeys, modest, calm, conditions, laid).
  DERIVED. THE GIVEN ROWS OF THIS SEAT. 8 by the template 'for every input the law returns true; each argument reads behind the call as it read before'; 0 by the template 'total and deterministic' (their statements: YthnhbemmlfaihaaGreatTotals.lean).
  GIVEN WITH THE SEED: the statements are not yours to turn. If you find one false, say at which input.
  Laid BY PROGRAM, IN A SANDBOX (cutbox-rows.mjs): the forced cells as the released guide's own fill.sh prints them over the translation a249053e1a2c00a0… (all of the seat's roots in one cut). By AI agents, Wed Nov 11 2026. No macro, syntax, notation, axiom, sorry.
-/
import Derived.Test.YthnhbemmlfaihaaGreatChecked
import GoSem.Claim
import GoSem.ClaimJoined
import GoSem.ClaimMapViews
import Derived.JoinedTies
import Derived.KernelRfl
namespace Go.Proofs.YthnhbemmlfaihaaGreat
/- THE CELL 'sum', in the pinned program and in every row, IS THE sha256 OF THE DUMP (.gsa) THAT YthnhbemmlfaihaaGreatProg.lean LOADS. Nothing in Lean hashes anything: it is a label: what it is worth is what the hold of that sum in a sandbox is worth. -/
noncomputable def Tryz.pinned : Pinned := { name := "ythnhbemmlfaihaagreat", sum := "a249053e1a2c00a0e520873f477a4e6990dec770edf4dff1d6ad7c4697eb6d6f", checked := Tryz.checked }
namespace Rows
def none {H : Type} : Left H := { results := [], args := [] }

/-- 'wireloomlaw27.PackingOrder': WHATEVER THE INPUT: true; the input reads as it did. -/
def packingOrderSpec : ChangeSpec := { name := "packingOrder", fn := fun _ => fun
  | [d1, d2] => { results := [.lit (.bool true)], args := [d1, d2] }
  | _ => none }
def packingOrderRow : OpenClaim := { program := "ythnhbemmlfaihaagreat", sum := "a249053e1a2c00a0e520873f477a4e6990dec770edf4dff1d6ad7c4697eb6d6f", func := "wireloom/wireloomlaw27.PackingOrder", spec := "packingOrder", unfollowed := true, recurses := true, plainKeys := false, apart := false }
def PackingOrderSaid : Prop := packingOrderRow.holds Tryz.pinned (OpenSpec.ofChange packingOrderSpec)

/-- ITS FALSE NEIGHBOUR: 'it returns false'. Refute it at one input. -/
def packingOrderWrong : ChangeSpec := { name := "packingOrder", fn := fun _ => fun
  | [d1, d2] => { results := [.lit (.bool false)], args := [d1, d2] }
  | _ => none }
def PackingOrderWrongFalsely : Prop := packingOrderRow.holds Tryz.pinned (OpenSpec.ofChange packingOrderWrong)

/-- 'wireloomlaw27.PackingKeys': WHATEVER THE INPUT: true; the input reads as it did. -/
def packingKeysSpec : ChangeSpec := { name := "packingKeys", fn := fun _ => fun
  | [d1, d2] => { results := [.lit (.bool true)], args := [d1, d2] }
  | _ => none }
def packingKeysRow : OpenClaim := { program := "ythnhbemmlfaihaagreat", sum := "a249053e1a2c00a0e520873f477a4e6990dec770edf4dff1d6ad7c4697eb6d6f", func := "wireloom/wireloomlaw27.PackingKeys", spec := "packingKeys", unfollowed := true, recurses := true, plainKeys := false, apart := false }
def PackingKeysSaid : Prop := packingKeysRow.holds Tryz.pinned (OpenSpec.ofChange packingKeysSpec)

/-- ITS FALSE NEIGHBOUR: 'it returns false'. Refute it at one input. -/
def packingKeysWrong : ChangeSpec := { name := "packingKeys", fn := fun _ => fun
  | [d1, d2] => { results := [.lit (.bool false)], args := [d1, d2] }
  | _ => none }
def PackingKeysWrongFalsely : Prop := packingKeysRow.holds Tryz.pinned (OpenSpec.ofChange packingKeysWrong)

/-- 'wireloomlaw27.PackingRefuses': WHATEVER THE INPUT: true; the input reads as it did. -/
def packingRefusesSpec : ChangeSpec := { name := "packingRefuses", fn := fun _ => fun
  | [d1, d2] => { results := [.lit (.bool true)], args := [d1, d2] }
  | _ => none }
def packingRefusesRow : OpenClaim := { program := "ythnhbemmlfaihaagreat", sum := "a249053e1a2c00a0e520873f477a4e6990dec770edf4dff1d6ad7c4697eb6d6f", func := "wireloom/wireloomlaw27.PackingRefuses", spec := "packingRefuses", unfollowed := true, recurses := true, plainKeys := false, apart := false }
def PackingRefusesSaid : Prop := packingRefusesRow.holds Tryz.pinned (OpenSpec.ofChange packingRefusesSpec)

/-- ITS FALSE NEIGHBOUR: 'it returns false'. Refute it at one input. -/
def packingRefusesWrong : ChangeSpec := { name := "packingRefuses", fn := fun _ => fun
  | [d1, d2] => { results := [.lit (.bool false)], args := [d1, d2] }
  | _ => none }
def PackingRefusesWrongFalsely : Prop := packingRefusesRow.holds Tryz.pinned (OpenSpec.ofChange packingRefusesWrong)

/-- 'wireloomlaw26.MappingMatchesReference': WHATEVER THE INPUT: true; the input reads as it did. -/
def mappingMatchesReferenceSpec : ChangeSpec := { name := "mappingMatchesReference", fn := fun _ => fun
  | [d1, d2, d3] => { results := [.lit (.bool true)], args := [d1, d2, d3] }
  | _ => none }
def mappingMatchesReferenceRow : OpenClaim := { program := "ythnhbemmlfaihaagreat", sum := "a249053e1a2c00a0e520873f477a4e6990dec770edf4dff1d6ad7c4697eb6d6f", func := "wireloom/wireloomlaw26.MappingMatchesReference", spec := "mappingMatchesReference", unfollowed := true, recurses := true, plainKeys := false, apart := false }
def MappingMatchesReferenceSaid : Prop := mappingMatchesReferenceRow.holds Tryz.pinned (OpenSpec.ofChange mappingMatchesReferenceSpec)

/-- ITS FALSE NEIGHBOUR: 'it returns false'. Refute it at one input. -/
def mappingMatchesReferenceWrong : ChangeSpec := { name := "mappingMatchesReference", fn := fun _ => fun
  | [d1, d2, d3] => { results := [.lit (.bool false)], args := [d1, d2, d3] }
  | _ => none }
def MappingMatchesReferenceWrongFalsely : Prop := mappingMatchesReferenceRow.holds Tryz.pinned (OpenSpec.ofChange mappingMatchesReferenceWrong)

/-- 'wireloomlaw26.MappingOptimal': WHATEVER THE INPUT: true; the input reads as it did. -/
def mappingOptimalSpec : ChangeSpec := { name := "mappingOptimal", fn := fun _ => fun
  | [d1, d2] => { results := [.lit (.bool true)], args := [d1, d2] }
  | _ => none }
def mappingOptimalRow : OpenClaim := { program := "ythnhbemmlfaihaagreat", sum := "a249053e1a2c00a0e520873f477a4e6990dec770edf4dff1d6ad7c4697eb6d6f", func := "wireloom/wireloomlaw26.MappingOptimal", spec := "mappingOptimal", unfollowed := true, recurses := true, plainKeys := false, apart := false }
def MappingOptimalSaid : Prop := mappingOptimalRow.holds Tryz.pinned (OpenSpec.ofChange mappingOptimalSpec)

/-- ITS FALSE NEIGHBOUR: 'it returns false'. Refute it at one input. -/
def mappingOptimalWrong : ChangeSpec := { name := "mappingOptimal", fn := fun _ => fun
  | [d1, d2] => { results := [.lit (.bool false)], args := [d1, d2] }
  | _ => none }
def MappingOptimalWrongFalsely : Prop := mappingOptimalRow.holds Tryz.pinned (OpenSpec.ofChange mappingOptimalWrong)

/-- 'wireloomlaw26.MappingAccepts': WHATEVER THE INPUT: true; the input reads as it did. -/
def mappingAcceptsSpec : ChangeSpec := { name := "mappingAccepts", fn := fun _ => fun
  | [d] => { results := [.lit (.bool true)], args := [d] }
  | _ => none }
def mappingAcceptsRow : OpenClaim := { program := "ythnhbemmlfaihaagreat", sum := "a249053e1a2c00a0e520873f477a4e6990dec770edf4dff1d6ad7c4697eb6d6f", func := "wireloom/wireloomlaw26.MappingAccepts", spec := "mappingAccepts", unfollowed := true, recurses := true, plainKeys := false, apart := false }
def MappingAcceptsSaid : Prop := mappingAcceptsRow.holds Tryz.pinned (OpenSpec.ofChange mappingAcceptsSpec)

/-- ITS FALSE NEIGHBOUR: 'it returns false'. Refute it at one input. -/
def mappingAcceptsWrong : ChangeSpec := { name := "mappingAccepts", fn := fun _ => fun
  | [d] => { results := [.lit (.bool false)], args := [d] }
  | _ => none }
def MappingAcceptsWrongFalsely : Prop := mappingAcceptsRow.holds Tryz.pinned (OpenSpec.ofChange mappingAcceptsWrong)

/-- 'wireloomlaw26.MappingComputes': WHATEVER THE INPUT: true; the input reads as it did. -/
def mappingComputesSpec : ChangeSpec := { name := "mappingComputes", fn := fun _ => fun
  | [d1, d2, d3] => { results := [.lit (.bool true)], args := [d1, d2, d3] }
  | _ => none }
def mappingComputesRow : OpenClaim := { program := "ythnhbemmlfaihaagreat", sum := "a249053e1a2c00a0e520873f477a4e6990dec770edf4dff1d6ad7c4697eb6d6f", func := "wireloom/wireloomlaw26.MappingComputes", spec := "mappingComputes", unfollowed := true, recurses := true, plainKeys := false, apart := false }
def MappingComputesSaid : Prop := mappingComputesRow.holds Tryz.pinned (OpenSpec.ofChange mappingComputesSpec)

/-- ITS FALSE NEIGHBOUR: 'it returns false'. Refute it at one input. -/
def mappingComputesWrong : ChangeSpec := { name := "mappingComputes", fn := fun _ => fun
  | [d1, d2, d3] => { results := [.lit (.bool false)], args := [d1, d2, d3] }
  | _ => none }
def MappingComputesWrongFalsely : Prop := mappingComputesRow.holds Tryz.pinned (OpenSpec.ofChange mappingComputesWrong)

/-- 'wireloomlaw26.MappingSteps': WHATEVER THE INPUT: true; the input reads as it did. -/
def mappingStepsSpec : ChangeSpec := { name := "mappingSteps", fn := fun _ => fun
  | [d1, d2, d3] => { results := [.lit (.bool true)], args := [d1, d2, d3] }
  | _ => none }
def mappingStepsRow : OpenClaim := { program := "ythnhbemmlfaihaagreat", sum := "a249053e1a2c00a0e520873f477a4e6990dec770edf4dff1d6ad7c4697eb6d6f", func := "wireloom/wireloomlaw26.MappingSteps", spec := "mappingSteps", unfollowed := true, recurses := true, plainKeys := false, apart := false }
def MappingStepsSaid : Prop := mappingStepsRow.holds Tryz.pinned (OpenSpec.ofChange mappingStepsSpec)

/-- ITS FALSE NEIGHBOUR: 'it returns false'. Refute it at one input. -/
def mappingStepsWrong : ChangeSpec := { name := "mappingSteps", fn := fun _ => fun
  | [d1, d2, d3] => { results := [.lit (.bool false)], args := [d1, d2, d3] }
  | _ => none }
def MappingStepsWrongFalsely : Prop := mappingStepsRow.holds Tryz.pinned (OpenSpec.ofChange mappingStepsWrong)

/- THE SECOND FORM. 'bulk': how many values and letters a reading holds, each counted each time it is reached (what is shared counts as often as it is met; a slice's spare places count too). A statement '..UptoSaid' is the law's where the arguments, and the package variables that the reading takes, are together of bulk at most 1048576: NARROWER than '..Said'. Prove '..Said' where nothing that the law and all that it calls make is longer than what came in: it says more and counts as full. Else prove '..UptoSaid'. A law counts once. -/
mutual
def uptoBulk {H : Type} : DataW H → Nat
  | .lit (.string bytes) => bytes.length + 1
  | .lit _ => 1
  | .nil => 1
  | .ptr d => uptoBulk d + 1
  | .slice elems spare => uptoBulkAll elems + uptoBulkAll spare + 1
  | .agg parts => uptoBulkAll parts + 1
  | .iface _ d => uptoBulk d + 1
  | .map entries => uptoBulkEntries entries + 1
  | .held _ => 1
def uptoBulkAll {H : Type} : List (DataW H) → Nat
  | [] => 0
  | d :: r => uptoBulk d + uptoBulkAll r
def uptoBulkEntries {H : Type} : List (Lit × DataW H) → Nat
  | [] => 0
  | x :: r => uptoBulkEntry x + uptoBulkEntries r
def uptoBulkEntry {H : Type} : Lit × DataW H → Nat
  | (.string bytes, d) => bytes.length + uptoBulk d + 1
  | (_, d) => uptoBulk d + 1
 end
def uptoSmall : (H : Type) → List (DataW H) → Bool := fun _ ds => decide (uptoBulkAll ds ≤ 1048576)
def OpenSpec.upto (s : _root_.Go.ChangeSpec) : _root_.Go.OpenSpec := { _root_.Go.OpenSpec.ofChange s with cond := some uptoSmall }

/-- 'wireloomlaw27.PackingOrder', WHERE WHAT IT READS IS OF BULK AT MOST 1048576: true; the input reads as it did. -/
def packingOrderUptoRow : OpenClaim := { program := "ythnhbemmlfaihaagreat", sum := "a249053e1a2c00a0e520873f477a4e6990dec770edf4dff1d6ad7c4697eb6d6f", func := "wireloom/wireloomlaw27.PackingOrder", spec := "packingOrder", unfollowed := true, recurses := true, plainKeys := false, apart := false, narrowed := true }
def PackingOrderUptoSaid : Prop := packingOrderUptoRow.holds Tryz.pinned (OpenSpec.upto packingOrderSpec)

/-- 'wireloomlaw27.PackingKeys', WHERE WHAT IT READS IS OF BULK AT MOST 1048576: true; the input reads as it did. -/
def packingKeysUptoRow : OpenClaim := { program := "ythnhbemmlfaihaagreat", sum := "a249053e1a2c00a0e520873f477a4e6990dec770edf4dff1d6ad7c4697eb6d6f", func := "wireloom/wireloomlaw27.PackingKeys", spec := "packingKeys", unfollowed := true, recurses := true, plainKeys := false, apart := false, narrowed := true }
def PackingKeysUptoSaid : Prop := packingKeysUptoRow.holds Tryz.pinned (OpenSpec.upto packingKeysSpec)

/-- 'wireloomlaw27.PackingRefuses', WHERE WHAT IT READS IS OF BULK AT MOST 1048576: true; the input reads as it did. -/
def packingRefusesUptoRow : OpenClaim := { program := "ythnhbemmlfaihaagreat", sum := "a249053e1a2c00a0e520873f477a4e6990dec770edf4dff1d6ad7c4697eb6d6f", func := "wireloom/wireloomlaw27.PackingRefuses", spec := "packingRefuses", unfollowed := true, recurses := true, plainKeys := false, apart := false, narrowed := true }
def PackingRefusesUptoSaid : Prop := packingRefusesUptoRow.holds Tryz.pinned (OpenSpec.upto packingRefusesSpec)

/-- 'wireloomlaw26.MappingMatchesReference', WHERE WHAT IT READS IS OF BULK AT MOST 1048576: true; the input reads as it did. -/
def mappingMatchesReferenceUptoRow : OpenClaim := { program := "ythnhbemmlfaihaagreat", sum := "a249053e1a2c00a0e520873f477a4e6990dec770edf4dff1d6ad7c4697eb6d6f", func := "wireloom/wireloomlaw26.MappingMatchesReference", spec := "mappingMatchesReference", unfollowed := true, recurses := true, plainKeys := false, apart := false, narrowed := true }
def MappingMatchesReferenceUptoSaid : Prop := mappingMatchesReferenceUptoRow.holds Tryz.pinned (OpenSpec.upto mappingMatchesReferenceSpec)

/-- 'wireloomlaw26.MappingOptimal', WHERE WHAT IT READS IS OF BULK AT MOST 1048576: true; the input reads as it did. -/
def mappingOptimalUptoRow : OpenClaim := { program := "ythnhbemmlfaihaagreat", sum := "a249053e1a2c00a0e520873f477a4e6990dec770edf4dff1d6ad7c4697eb6d6f", func := "wireloom/wireloomlaw26.MappingOptimal", spec := "mappingOptimal", unfollowed := true, recurses := true, plainKeys := false, apart := false, narrowed := true }
def MappingOptimalUptoSaid : Prop := mappingOptimalUptoRow.holds Tryz.pinned (OpenSpec.upto mappingOptimalSpec)

/-- 'wireloomlaw26.MappingAccepts', WHERE WHAT IT READS IS OF BULK AT MOST 1048576: true; the input reads as it did. -/
def mappingAcceptsUptoRow : OpenClaim := { program := "ythnhbemmlfaihaagreat", sum := "a249053e1a2c00a0e520873f477a4e6990dec770edf4dff1d6ad7c4697eb6d6f", func := "wireloom/wireloomlaw26.MappingAccepts", spec := "mappingAccepts", unfollowed := true, recurses := true, plainKeys := false, apart := false, narrowed := true }
def MappingAcceptsUptoSaid : Prop := mappingAcceptsUptoRow.holds Tryz.pinned (OpenSpec.upto mappingAcceptsSpec)

/-- 'wireloomlaw26.MappingComputes', WHERE WHAT IT READS IS OF BULK AT MOST 1048576: true; the input reads as it did. -/
def mappingComputesUptoRow : OpenClaim := { program := "ythnhbemmlfaihaagreat", sum := "a249053e1a2c00a0e520873f477a4e6990dec770edf4dff1d6ad7c4697eb6d6f", func := "wireloom/wireloomlaw26.MappingComputes", spec := "mappingComputes", unfollowed := true, recurses := true, plainKeys := false, apart := false, narrowed := true }
def MappingComputesUptoSaid : Prop := mappingComputesUptoRow.holds Tryz.pinned (OpenSpec.upto mappingComputesSpec)

/-- 'wireloomlaw26.MappingSteps', WHERE WHAT IT READS IS OF BULK AT MOST 1048576: true; the input reads as it did. -/
def mappingStepsUptoRow : OpenClaim := { program := "ythnhbemmlfaihaagreat", sum := "a249053e1a2c00a0e520873f477a4e6990dec770edf4dff1d6ad7c4697eb6d6f", func := "wireloom/wireloomlaw26.MappingSteps", spec := "mappingSteps", unfollowed := true, recurses := true, plainKeys := false, apart := false, narrowed := true }
def MappingStepsUptoSaid : Prop := mappingStepsUptoRow.holds Tryz.pinned (OpenSpec.upto mappingStepsSpec)

end Rows
end Go.Proofs.YthnhbemmlfaihaaGreat
