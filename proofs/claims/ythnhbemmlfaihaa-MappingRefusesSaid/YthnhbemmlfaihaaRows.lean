/-
  No cell of these rows narrows 'for every input' (looked for: loops, veiled, ifaces, maps, wideKeys, modest, calm, conditions, laid).
  DERIVED. THE GIVEN ROWS OF THIS SEAT. 2 by the template 'for every input the law returns true; each argument reads behind the call as it read before'; 0 by the template 'total and deterministic' (their statements: YthnhbemmlfaihaaTotals.lean).
  GIVEN WITH THE SEED: the statements are not yours to turn. If you find one false, say at which input.
  Laid BY PROGRAM, IN A SANDBOX (cutbox-rows.mjs): the forced cells as the released guide's own fill.sh prints them over the translation 9a966b2201f745da… (all of the seat's roots in one cut). By AI agents, Wed Nov 11 2026. No macro, syntax, notation, axiom, sorry.
-/
import Derived.Test.YthnhbemmlfaihaaChecked
import GoSem.Claim
import GoSem.ClaimJoined
import GoSem.ClaimMapViews
import Derived.JoinedTies
import Derived.KernelRfl
namespace Go.Proofs.Ythnhbemmlfaihaa
/- THE CELL 'sum', in the pinned program and in every row, IS THE sha256 OF THE DUMP (.gsa) THAT YthnhbemmlfaihaaProg.lean LOADS. Nothing in Lean hashes anything: it is a label: what it is worth is what the hold of that sum in a sandbox is worth. -/
noncomputable def Try.pinned : Pinned := { name := "ythnhbemmlfaihaa", sum := "9a966b2201f745daa76a378699e7d5946a7e189cca13f338a1de2b6c2765eabb", checked := Try.checked }
namespace Rows
def none {H : Type} : Left H := { results := [], args := [] }

/-- 'wireloomlaw26.MappingRefuses': WHATEVER THE INPUT: true; the input reads as it did. -/
def mappingRefusesSpec : ChangeSpec := { name := "mappingRefuses", fn := fun _ => fun
  | [d1, d2, d3] => { results := [.lit (.bool true)], args := [d1, d2, d3] }
  | _ => none }
def mappingRefusesRow : OpenClaim := { program := "ythnhbemmlfaihaa", sum := "9a966b2201f745daa76a378699e7d5946a7e189cca13f338a1de2b6c2765eabb", func := "wireloom/wireloomlaw26.MappingRefuses", spec := "mappingRefuses", unfollowed := true, recurses := true, apart := false }
def MappingRefusesSaid : Prop := mappingRefusesRow.holds Try.pinned (OpenSpec.ofChange mappingRefusesSpec)

/-- ITS FALSE NEIGHBOUR: 'it returns false'. Refute it at one input. -/
def mappingRefusesWrong : ChangeSpec := { name := "mappingRefuses", fn := fun _ => fun
  | [d1, d2, d3] => { results := [.lit (.bool false)], args := [d1, d2, d3] }
  | _ => none }
def MappingRefusesWrongFalsely : Prop := mappingRefusesRow.holds Try.pinned (OpenSpec.ofChange mappingRefusesWrong)

/-- 'wireloomlaw26.MappingIgnores': WHATEVER THE INPUT: true; the input reads as it did. -/
def mappingIgnoresSpec : ChangeSpec := { name := "mappingIgnores", fn := fun _ => fun
  | [d1, d2] => { results := [.lit (.bool true)], args := [d1, d2] }
  | _ => none }
def mappingIgnoresRow : OpenClaim := { program := "ythnhbemmlfaihaa", sum := "9a966b2201f745daa76a378699e7d5946a7e189cca13f338a1de2b6c2765eabb", func := "wireloom/wireloomlaw26.MappingIgnores", spec := "mappingIgnores", unfollowed := true, recurses := true, apart := false }
def MappingIgnoresSaid : Prop := mappingIgnoresRow.holds Try.pinned (OpenSpec.ofChange mappingIgnoresSpec)

/-- ITS FALSE NEIGHBOUR: 'it returns false'. Refute it at one input. -/
def mappingIgnoresWrong : ChangeSpec := { name := "mappingIgnores", fn := fun _ => fun
  | [d1, d2] => { results := [.lit (.bool false)], args := [d1, d2] }
  | _ => none }
def MappingIgnoresWrongFalsely : Prop := mappingIgnoresRow.holds Try.pinned (OpenSpec.ofChange mappingIgnoresWrong)

/- THE SECOND FORM. 'bulk': how many values and letters a reading holds, each counted each time it is reached (what is shared counts as often as it is met; a slice's spare places count too). A statement '..UptoSaid' is the law's where the arguments, and the package variables that the reading takes, are together of bulk at most 1048576: NARROWER than '..Said'. Prove '..Said' where nothing that the law and all that it calls make is longer than what came in: it says more and counts as full. Else prove '..UptoSaid'. A law counts once. -/
mutual
def uptoBulk {H : Type} : DataW H → Nat
  | .lit (.string bytes) => bytes.length + 1
  | .lit _ => 1
  | .nil => 1
  | .ptr d => uptoBulk d + 1
  | .slice elems spare => uptoBulkAll elems + uptoBulkAll spare + 1
  | .agg parts => uptoBulkAll parts + 1
  | .iface _ d => uptoBulk d + 1
  | .map entries => uptoBulkEntries entries + 1
  | .held _ => 1
def uptoBulkAll {H : Type} : List (DataW H) → Nat
  | [] => 0
  | d :: r => uptoBulk d + uptoBulkAll r
def uptoBulkEntries {H : Type} : List (Lit × DataW H) → Nat
  | [] => 0
  | x :: r => uptoBulkEntry x + uptoBulkEntries r
def uptoBulkEntry {H : Type} : Lit × DataW H → Nat
  | (.string bytes, d) => bytes.length + uptoBulk d + 1
  | (_, d) => uptoBulk d + 1
 end
def uptoSmall : (H : Type) → List (DataW H) → Bool := fun _ ds => decide (uptoBulkAll ds ≤ 1048576)
def OpenSpec.upto (s : _root_.Go.ChangeSpec) : _root_.Go.OpenSpec := { _root_.Go.OpenSpec.ofChange s with cond := some uptoSmall }

/-- 'wireloomlaw26.MappingRefuses', WHERE WHAT IT READS IS OF BULK AT MOST 1048576: true; the input reads as it did. -/
def mappingRefusesUptoRow : OpenClaim := { program := "ythnhbemmlfaihaa", sum := "9a966b2201f745daa76a378699e7d5946a7e189cca13f338a1de2b6c2765eabb", func := "wireloom/wireloomlaw26.MappingRefuses", spec := "mappingRefuses", unfollowed := true, recurses := true, apart := false, narrowed := true }
def MappingRefusesUptoSaid : Prop := mappingRefusesUptoRow.holds Try.pinned (OpenSpec.upto mappingRefusesSpec)

/-- 'wireloomlaw26.MappingIgnores', WHERE WHAT IT READS IS OF BULK AT MOST 1048576: true; the input reads as it did. -/
def mappingIgnoresUptoRow : OpenClaim := { program := "ythnhbemmlfaihaa", sum := "9a966b2201f745daa76a378699e7d5946a7e189cca13f338a1de2b6c2765eabb", func := "wireloom/wireloomlaw26.MappingIgnores", spec := "mappingIgnores", unfollowed := true, recurses := true, apart := false, narrowed := true }
def MappingIgnoresUptoSaid : Prop := mappingIgnoresUptoRow.holds Try.pinned (OpenSpec.upto mappingIgnoresSpec)

end Rows
end Go.Proofs.Ythnhbemmlfaihaa
