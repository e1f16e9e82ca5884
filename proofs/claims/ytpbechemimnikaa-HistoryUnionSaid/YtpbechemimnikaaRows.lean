/-
  No cell of these rows narrows 'for every input' (looked for: loops, veiled, ifaces, maps, wideKeys, modest, calm, conditions, laid).
  DERIVED. THE GIVEN ROWS OF THIS SEAT. 6 by the template 'for every input the law returns true; each argument reads behind the call as it read before'; 0 by the template 'total and deterministic' (their statements: YtpbechemimnikaaTotals.lean).
  GIVEN WITH THE SEED: the statements are not yours to turn. If you find one false, say at which input.
  Laid BY PROGRAM, IN A SANDBOX (cutbox-rows.mjs): the forced cells as the released guide's own fill.sh prints them over the translation ef46d1aef25129bd… (all of the seat's roots in one cut). By AI agents, Wed Nov 11 2026. No macro, syntax, notation, axiom, sorry.
-/
import Derived.Test.YtpbechemimnikaaChecked
import GoSem.Claim
import GoSem.ClaimJoined
import GoSem.ClaimMapViews
import Derived.JoinedTies
import Derived.KernelRfl
namespace Go.Proofs.Ytpbechemimnikaa
/- THE CELL 'sum', in the pinned program and in every row, IS THE sha256 OF THE DUMP (.gsa) THAT YtpbechemimnikaaProg.lean LOADS. Nothing in Lean hashes anything: it is a label: what it is worth is what the hold of that sum in a sandbox is worth. -/
noncomputable def Try.pinned : Pinned := { name := "ytpbechemimnikaa", sum := "ef46d1aef25129bddb6dd4f130427343b292a256058678c491ccb31862538658", checked := Try.checked }
namespace Rows
def none {H : Type} : Left H := { results := [], args := [] }

/-- 'wireloomlaw19.HistoryOrder': WHATEVER THE INPUT: true; the input reads as it did. -/
def historyOrderSpec : ChangeSpec := { name := "historyOrder", fn := fun _ => fun
  | [d1, d2] => { results := [.lit (.bool true)], args := [d1, d2] }
  | _ => none }
def historyOrderRow : OpenClaim := { program := "ytpbechemimnikaa", sum := "ef46d1aef25129bddb6dd4f130427343b292a256058678c491ccb31862538658", func := "wireloom/wireloomlaw19.HistoryOrder", spec := "historyOrder", unfollowed := true, recurses := true, apart := false }
def HistoryOrderSaid : Prop := historyOrderRow.holds Try.pinned (OpenSpec.ofChange historyOrderSpec)

/-- ITS FALSE NEIGHBOUR: 'it returns false'. Refute it at one input. -/
def historyOrderWrong : ChangeSpec := { name := "historyOrder", fn := fun _ => fun
  | [d1, d2] => { results := [.lit (.bool false)], args := [d1, d2] }
  | _ => none }
def HistoryOrderWrongFalsely : Prop := historyOrderRow.holds Try.pinned (OpenSpec.ofChange historyOrderWrong)

/-- 'wireloomlaw19.HistoryBases': WHATEVER THE INPUT: true; the input reads as it did. -/
def historyBasesSpec : ChangeSpec := { name := "historyBases", fn := fun _ => fun
  | [d1, d2] => { results := [.lit (.bool true)], args := [d1, d2] }
  | _ => none }
def historyBasesRow : OpenClaim := { program := "ytpbechemimnikaa", sum := "ef46d1aef25129bddb6dd4f130427343b292a256058678c491ccb31862538658", func := "wireloom/wireloomlaw19.HistoryBases", spec := "historyBases", unfollowed := true, recurses := true, apart := false }
def HistoryBasesSaid : Prop := historyBasesRow.holds Try.pinned (OpenSpec.ofChange historyBasesSpec)

/-- ITS FALSE NEIGHBOUR: 'it returns false'. Refute it at one input. -/
def historyBasesWrong : ChangeSpec := { name := "historyBases", fn := fun _ => fun
  | [d1, d2] => { results := [.lit (.bool false)], args := [d1, d2] }
  | _ => none }
def HistoryBasesWrongFalsely : Prop := historyBasesRow.holds Try.pinned (OpenSpec.ofChange historyBasesWrong)

/-- 'wireloomlaw19.HistoryBetween': WHATEVER THE INPUT: true; the input reads as it did. -/
def historyBetweenSpec : ChangeSpec := { name := "historyBetween", fn := fun _ => fun
  | [d1, d2] => { results := [.lit (.bool true)], args := [d1, d2] }
  | _ => none }
def historyBetweenRow : OpenClaim := { program := "ytpbechemimnikaa", sum := "ef46d1aef25129bddb6dd4f130427343b292a256058678c491ccb31862538658", func := "wireloom/wireloomlaw19.HistoryBetween", spec := "historyBetween", unfollowed := true, recurses := true, apart := false }
def HistoryBetweenSaid : Prop := historyBetweenRow.holds Try.pinned (OpenSpec.ofChange historyBetweenSpec)

/-- ITS FALSE NEIGHBOUR: 'it returns false'. Refute it at one input. -/
def historyBetweenWrong : ChangeSpec := { name := "historyBetween", fn := fun _ => fun
  | [d1, d2] => { results := [.lit (.bool false)], args := [d1, d2] }
  | _ => none }
def HistoryBetweenWrongFalsely : Prop := historyBetweenRow.holds Try.pinned (OpenSpec.ofChange historyBetweenWrong)

/-- 'wireloomlaw19.HistoryGrows': WHATEVER THE INPUT: true; the input reads as it did. -/
def historyGrowsSpec : ChangeSpec := { name := "historyGrows", fn := fun _ => fun
  | [d1, d2, d3] => { results := [.lit (.bool true)], args := [d1, d2, d3] }
  | _ => none }
def historyGrowsRow : OpenClaim := { program := "ytpbechemimnikaa", sum := "ef46d1aef25129bddb6dd4f130427343b292a256058678c491ccb31862538658", func := "wireloom/wireloomlaw19.HistoryGrows", spec := "historyGrows", unfollowed := true, recurses := true, apart := false }
def HistoryGrowsSaid : Prop := historyGrowsRow.holds Try.pinned (OpenSpec.ofChange historyGrowsSpec)

/-- ITS FALSE NEIGHBOUR: 'it returns false'. Refute it at one input. -/
def historyGrowsWrong : ChangeSpec := { name := "historyGrows", fn := fun _ => fun
  | [d1, d2, d3] => { results := [.lit (.bool false)], args := [d1, d2, d3] }
  | _ => none }
def HistoryGrowsWrongFalsely : Prop := historyGrowsRow.holds Try.pinned (OpenSpec.ofChange historyGrowsWrong)

/-- 'wireloomlaw19.HistoryIntegrity': WHATEVER THE INPUT: true; the input reads as it did. -/
def historyIntegritySpec : ChangeSpec := { name := "historyIntegrity", fn := fun _ => fun
  | [d1, d2, d3] => { results := [.lit (.bool true)], args := [d1, d2, d3] }
  | _ => none }
def historyIntegrityRow : OpenClaim := { program := "ytpbechemimnikaa", sum := "ef46d1aef25129bddb6dd4f130427343b292a256058678c491ccb31862538658", func := "wireloom/wireloomlaw19.HistoryIntegrity", spec := "historyIntegrity", unfollowed := true, recurses := true, apart := false }
def HistoryIntegritySaid : Prop := historyIntegrityRow.holds Try.pinned (OpenSpec.ofChange historyIntegritySpec)

/-- ITS FALSE NEIGHBOUR: 'it returns false'. Refute it at one input. -/
def historyIntegrityWrong : ChangeSpec := { name := "historyIntegrity", fn := fun _ => fun
  | [d1, d2, d3] => { results := [.lit (.bool false)], args := [d1, d2, d3] }
  | _ => none }
def HistoryIntegrityWrongFalsely : Prop := historyIntegrityRow.holds Try.pinned (OpenSpec.ofChange historyIntegrityWrong)

/-- 'wireloomlaw19.HistoryUnion': WHATEVER THE INPUT: true; the input reads as it did. -/
def historyUnionSpec : ChangeSpec := { name := "historyUnion", fn := fun _ => fun
  | [d1, d2, d3] => { results := [.lit (.bool true)], args := [d1, d2, d3] }
  | _ => none }
def historyUnionRow : OpenClaim := { program := "ytpbechemimnikaa", sum := "ef46d1aef25129bddb6dd4f130427343b292a256058678c491ccb31862538658", func := "wireloom/wireloomlaw19.HistoryUnion", spec := "historyUnion", unfollowed := true, recurses := true, apart := false }
def HistoryUnionSaid : Prop := historyUnionRow.holds Try.pinned (OpenSpec.ofChange historyUnionSpec)

/-- ITS FALSE NEIGHBOUR: 'it returns false'. Refute it at one input. -/
def historyUnionWrong : ChangeSpec := { name := "historyUnion", fn := fun _ => fun
  | [d1, d2, d3] => { results := [.lit (.bool false)], args := [d1, d2, d3] }
  | _ => none }
def HistoryUnionWrongFalsely : Prop := historyUnionRow.holds Try.pinned (OpenSpec.ofChange historyUnionWrong)

/- THE SECOND FORM. 'bulk': how many values and letters a reading holds, each counted each time it is reached (what is shared counts as often as it is met; a slice's spare places count too). A statement '..UptoSaid' is the law's where the arguments, and the package variables that the reading takes, are together of bulk at most 1048576: NARROWER than '..Said'. Prove '..Said' where nothing that the law and all that it calls make is longer than what came in: it says more and counts as full. Else prove '..UptoSaid'. A law counts once. -/
mutual
def uptoBulk {H : Type} : DataW H → Nat
  | .lit (.string bytes) => bytes.length + 1
  | .lit _ => 1
  | .nil => 1
  | .ptr d => uptoBulk d + 1
  | .slice elems spare => uptoBulkAll elems + uptoBulkAll spare + 1
  | .agg parts => uptoBulkAll parts + 1
  | .iface _ d => uptoBulk d + 1
  | .map entries => uptoBulkEntries entries + 1
  | .held _ => 1
def uptoBulkAll {H : Type} : List (DataW H) → Nat
  | [] => 0
  | d :: r => uptoBulk d + uptoBulkAll r
def uptoBulkEntries {H : Type} : List (Lit × DataW H) → Nat
  | [] => 0
  | x :: r => uptoBulkEntry x + uptoBulkEntries r
def uptoBulkEntry {H : Type} : Lit × DataW H → Nat
  | (.string bytes, d) => bytes.length + uptoBulk d + 1
  | (_, d) => uptoBulk d + 1
 end
def uptoSmall : (H : Type) → List (DataW H) → Bool := fun _ ds => decide (uptoBulkAll ds ≤ 1048576)
def OpenSpec.upto (s : _root_.Go.ChangeSpec) : _root_.Go.OpenSpec := { _root_.Go.OpenSpec.ofChange s with cond := some uptoSmall }

/-- 'wireloomlaw19.HistoryOrder', WHERE WHAT IT READS IS OF BULK AT MOST 1048576: true; the input reads as it did. -/
def historyOrderUptoRow : OpenClaim := { program := "ytpbechemimnikaa", sum := "ef46d1aef25129bddb6dd4f130427343b292a256058678c491ccb31862538658", func := "wireloom/wireloomlaw19.HistoryOrder", spec := "historyOrder", unfollowed := true, recurses := true, apart := false, narrowed := true }
def HistoryOrderUptoSaid : Prop := historyOrderUptoRow.holds Try.pinned (OpenSpec.upto historyOrderSpec)

/-- 'wireloomlaw19.HistoryBases', WHERE WHAT IT READS IS OF BULK AT MOST 1048576: true; the input reads as it did. -/
def historyBasesUptoRow : OpenClaim := { program := "ytpbechemimnikaa", sum := "ef46d1aef25129bddb6dd4f130427343b292a256058678c491ccb31862538658", func := "wireloom/wireloomlaw19.HistoryBases", spec := "historyBases", unfollowed := true, recurses := true, apart := false, narrowed := true }
def HistoryBasesUptoSaid : Prop := historyBasesUptoRow.holds Try.pinned (OpenSpec.upto historyBasesSpec)

/-- 'wireloomlaw19.HistoryBetween', WHERE WHAT IT READS IS OF BULK AT MOST 1048576: true; the input reads as it did. -/
def historyBetweenUptoRow : OpenClaim := { program := "ytpbechemimnikaa", sum := "ef46d1aef25129bddb6dd4f130427343b292a256058678c491ccb31862538658", func := "wireloom/wireloomlaw19.HistoryBetween", spec := "historyBetween", unfollowed := true, recurses := true, apart := false, narrowed := true }
def HistoryBetweenUptoSaid : Prop := historyBetweenUptoRow.holds Try.pinned (OpenSpec.upto historyBetweenSpec)

/-- 'wireloomlaw19.HistoryGrows', WHERE WHAT IT READS IS OF BULK AT MOST 1048576: true; the input reads as it did. -/
def historyGrowsUptoRow : OpenClaim := { program := "ytpbechemimnikaa", sum := "ef46d1aef25129bddb6dd4f130427343b292a256058678c491ccb31862538658", func := "wireloom/wireloomlaw19.HistoryGrows", spec := "historyGrows", unfollowed := true, recurses := true, apart := false, narrowed := true }
def HistoryGrowsUptoSaid : Prop := historyGrowsUptoRow.holds Try.pinned (OpenSpec.upto historyGrowsSpec)

/-- 'wireloomlaw19.HistoryIntegrity', WHERE WHAT IT READS IS OF BULK AT MOST 1048576: true; the input reads as it did. -/
def historyIntegrityUptoRow : OpenClaim := { program := "ytpbechemimnikaa", sum := "ef46d1aef25129bddb6dd4f130427343b292a256058678c491ccb31862538658", func := "wireloom/wireloomlaw19.HistoryIntegrity", spec := "historyIntegrity", unfollowed := true, recurses := true, apart := false, narrowed := true }
def HistoryIntegrityUptoSaid : Prop := historyIntegrityUptoRow.holds Try.pinned (OpenSpec.upto historyIntegritySpec)

/-- 'wireloomlaw19.HistoryUnion', WHERE WHAT IT READS IS OF BULK AT MOST 1048576: true; the input reads as it did. -/
def historyUnionUptoRow : OpenClaim := { program := "ytpbechemimnikaa", sum := "ef46d1aef25129bddb6dd4f130427343b292a256058678c491ccb31862538658", func := "wireloom/wireloomlaw19.HistoryUnion", spec := "historyUnion", unfollowed := true, recurses := true, apart := false, narrowed := true }
def HistoryUnionUptoSaid : Prop := historyUnionUptoRow.holds Try.pinned (OpenSpec.upto historyUnionSpec)

end Rows
end Go.Proofs.Ytpbechemimnikaa
