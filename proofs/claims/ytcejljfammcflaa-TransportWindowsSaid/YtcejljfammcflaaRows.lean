/-
  No cell of these rows narrows 'for every input' (looked for: loops, veiled, ifaces, maps, wideKeys, modest, calm, conditions, laid).
  DERIVED. THE GIVEN ROWS OF THIS SEAT. 7 by the template 'for every input the law returns true; each argument reads behind the call as it read before'; 0 by the template 'total and deterministic' (their statements: YtcejljfammcflaaTotals.lean).
  GIVEN WITH THE SEED: the statements are not yours to turn. If you find one false, say at which input.
  Laid BY PROGRAM, IN A SANDBOX (cutbox-rows.mjs): the forced cells as the released guide's own fill.sh prints them over the translation e17d64e5f1e47790… (all of the seat's roots in one cut). By AI agents, Wed Nov 11 2026. No macro, syntax, notation, axiom, sorry.
-/
import Derived.Test.YtcejljfammcflaaChecked
import GoSem.Claim
import GoSem.ClaimJoined
import GoSem.ClaimMapViews
import Derived.JoinedTies
import Derived.KernelRfl
namespace Go.Proofs.Ytcejljfammcflaa
/- THE CELL 'sum', in the pinned program and in every row, IS THE sha256 OF THE DUMP (.gsa) THAT YtcejljfammcflaaProg.lean LOADS. Nothing in Lean hashes anything: it is a label: what it is worth is what the hold of that sum in a sandbox is worth. -/
noncomputable def Try.pinned : Pinned := { name := "ytcejljfammcflaa", sum := "e17d64e5f1e47790d7f7f456f214de7e8d97f751e17a5bc6bc54432fff0315d5", checked := Try.checked }
namespace Rows
def none {H : Type} : Left H := { results := [], args := [] }

/-- 'wireloomlaw50.TransportMatchesReference': WHATEVER THE INPUT: true; the input reads as it did. -/
def transportMatchesReferenceSpec : ChangeSpec := { name := "transportMatchesReference", fn := fun _ => fun
  | [d1, d2, d3] => { results := [.lit (.bool true)], args := [d1, d2, d3] }
  | _ => none }
def transportMatchesReferenceRow : OpenClaim := { program := "ytcejljfammcflaa", sum := "e17d64e5f1e47790d7f7f456f214de7e8d97f751e17a5bc6bc54432fff0315d5", func := "wireloom/wireloomlaw50.TransportMatchesReference", spec := "transportMatchesReference", unfollowed := true, recurses := true, apart := false }
def TransportMatchesReferenceSaid : Prop := transportMatchesReferenceRow.holds Try.pinned (OpenSpec.ofChange transportMatchesReferenceSpec)

/-- ITS FALSE NEIGHBOUR: 'it returns false'. Refute it at one input. -/
def transportMatchesReferenceWrong : ChangeSpec := { name := "transportMatchesReference", fn := fun _ => fun
  | [d1, d2, d3] => { results := [.lit (.bool false)], args := [d1, d2, d3] }
  | _ => none }
def TransportMatchesReferenceWrongFalsely : Prop := transportMatchesReferenceRow.holds Try.pinned (OpenSpec.ofChange transportMatchesReferenceWrong)

/-- 'wireloomlaw50.TransportDelivers': WHATEVER THE INPUT: true; the input reads as it did. -/
def transportDeliversSpec : ChangeSpec := { name := "transportDelivers", fn := fun _ => fun
  | [d1, d2] => { results := [.lit (.bool true)], args := [d1, d2] }
  | _ => none }
def transportDeliversRow : OpenClaim := { program := "ytcejljfammcflaa", sum := "e17d64e5f1e47790d7f7f456f214de7e8d97f751e17a5bc6bc54432fff0315d5", func := "wireloom/wireloomlaw50.TransportDelivers", spec := "transportDelivers", unfollowed := true, recurses := true, apart := false }
def TransportDeliversSaid : Prop := transportDeliversRow.holds Try.pinned (OpenSpec.ofChange transportDeliversSpec)

/-- ITS FALSE NEIGHBOUR: 'it returns false'. Refute it at one input. -/
def transportDeliversWrong : ChangeSpec := { name := "transportDelivers", fn := fun _ => fun
  | [d1, d2] => { results := [.lit (.bool false)], args := [d1, d2] }
  | _ => none }
def TransportDeliversWrongFalsely : Prop := transportDeliversRow.holds Try.pinned (OpenSpec.ofChange transportDeliversWrong)

/-- 'wireloomlaw50.TransportCompletes': WHATEVER THE INPUT: true; the input reads as it did. -/
def transportCompletesSpec : ChangeSpec := { name := "transportCompletes", fn := fun _ => fun
  | [d1, d2, d3] => { results := [.lit (.bool true)], args := [d1, d2, d3] }
  | _ => none }
def transportCompletesRow : OpenClaim := { program := "ytcejljfammcflaa", sum := "e17d64e5f1e47790d7f7f456f214de7e8d97f751e17a5bc6bc54432fff0315d5", func := "wireloom/wireloomlaw50.TransportCompletes", spec := "transportCompletes", unfollowed := true, recurses := true, apart := false }
def TransportCompletesSaid : Prop := transportCompletesRow.holds Try.pinned (OpenSpec.ofChange transportCompletesSpec)

/-- ITS FALSE NEIGHBOUR: 'it returns false'. Refute it at one input. -/
def transportCompletesWrong : ChangeSpec := { name := "transportCompletes", fn := fun _ => fun
  | [d1, d2, d3] => { results := [.lit (.bool false)], args := [d1, d2, d3] }
  | _ => none }
def TransportCompletesWrongFalsely : Prop := transportCompletesRow.holds Try.pinned (OpenSpec.ofChange transportCompletesWrong)

/-- 'wireloomlaw50.TransportRefuses': WHATEVER THE INPUT: true; the input reads as it did. -/
def transportRefusesSpec : ChangeSpec := { name := "transportRefuses", fn := fun _ => fun
  | [d1, d2, d3] => { results := [.lit (.bool true)], args := [d1, d2, d3] }
  | _ => none }
def transportRefusesRow : OpenClaim := { program := "ytcejljfammcflaa", sum := "e17d64e5f1e47790d7f7f456f214de7e8d97f751e17a5bc6bc54432fff0315d5", func := "wireloom/wireloomlaw50.TransportRefuses", spec := "transportRefuses", unfollowed := true, recurses := true, apart := false }
def TransportRefusesSaid : Prop := transportRefusesRow.holds Try.pinned (OpenSpec.ofChange transportRefusesSpec)

/-- ITS FALSE NEIGHBOUR: 'it returns false'. Refute it at one input. -/
def transportRefusesWrong : ChangeSpec := { name := "transportRefuses", fn := fun _ => fun
  | [d1, d2, d3] => { results := [.lit (.bool false)], args := [d1, d2, d3] }
  | _ => none }
def TransportRefusesWrongFalsely : Prop := transportRefusesRow.holds Try.pinned (OpenSpec.ofChange transportRefusesWrong)

/-- 'wireloomlaw50.TransportIdempotent': WHATEVER THE INPUT: true; the input reads as it did. -/
def transportIdempotentSpec : ChangeSpec := { name := "transportIdempotent", fn := fun _ => fun
  | [d1, d2] => { results := [.lit (.bool true)], args := [d1, d2] }
  | _ => none }
def transportIdempotentRow : OpenClaim := { program := "ytcejljfammcflaa", sum := "e17d64e5f1e47790d7f7f456f214de7e8d97f751e17a5bc6bc54432fff0315d5", func := "wireloom/wireloomlaw50.TransportIdempotent", spec := "transportIdempotent", unfollowed := true, recurses := true, apart := false }
def TransportIdempotentSaid : Prop := transportIdempotentRow.holds Try.pinned (OpenSpec.ofChange transportIdempotentSpec)

/-- ITS FALSE NEIGHBOUR: 'it returns false'. Refute it at one input. -/
def transportIdempotentWrong : ChangeSpec := { name := "transportIdempotent", fn := fun _ => fun
  | [d1, d2] => { results := [.lit (.bool false)], args := [d1, d2] }
  | _ => none }
def TransportIdempotentWrongFalsely : Prop := transportIdempotentRow.holds Try.pinned (OpenSpec.ofChange transportIdempotentWrong)

/-- 'wireloomlaw50.TransportMonotone': WHATEVER THE INPUT: true; the input reads as it did. -/
def transportMonotoneSpec : ChangeSpec := { name := "transportMonotone", fn := fun _ => fun
  | [d1, d2, d3] => { results := [.lit (.bool true)], args := [d1, d2, d3] }
  | _ => none }
def transportMonotoneRow : OpenClaim := { program := "ytcejljfammcflaa", sum := "e17d64e5f1e47790d7f7f456f214de7e8d97f751e17a5bc6bc54432fff0315d5", func := "wireloom/wireloomlaw50.TransportMonotone", spec := "transportMonotone", unfollowed := true, recurses := true, apart := false }
def TransportMonotoneSaid : Prop := transportMonotoneRow.holds Try.pinned (OpenSpec.ofChange transportMonotoneSpec)

/-- ITS FALSE NEIGHBOUR: 'it returns false'. Refute it at one input. -/
def transportMonotoneWrong : ChangeSpec := { name := "transportMonotone", fn := fun _ => fun
  | [d1, d2, d3] => { results := [.lit (.bool false)], args := [d1, d2, d3] }
  | _ => none }
def TransportMonotoneWrongFalsely : Prop := transportMonotoneRow.holds Try.pinned (OpenSpec.ofChange transportMonotoneWrong)

/-- 'wireloomlaw50.TransportWindows': WHATEVER THE INPUT: true; the input reads as it did. -/
def transportWindowsSpec : ChangeSpec := { name := "transportWindows", fn := fun _ => fun
  | [d1, d2, d3] => { results := [.lit (.bool true)], args := [d1, d2, d3] }
  | _ => none }
def transportWindowsRow : OpenClaim := { program := "ytcejljfammcflaa", sum := "e17d64e5f1e47790d7f7f456f214de7e8d97f751e17a5bc6bc54432fff0315d5", func := "wireloom/wireloomlaw50.TransportWindows", spec := "transportWindows", unfollowed := true, recurses := true, apart := false }
def TransportWindowsSaid : Prop := transportWindowsRow.holds Try.pinned (OpenSpec.ofChange transportWindowsSpec)

/-- ITS FALSE NEIGHBOUR: 'it returns false'. Refute it at one input. -/
def transportWindowsWrong : ChangeSpec := { name := "transportWindows", fn := fun _ => fun
  | [d1, d2, d3] => { results := [.lit (.bool false)], args := [d1, d2, d3] }
  | _ => none }
def TransportWindowsWrongFalsely : Prop := transportWindowsRow.holds Try.pinned (OpenSpec.ofChange transportWindowsWrong)

/- THE SECOND FORM. 'bulk': how many values and letters a reading holds, each counted each time it is reached (what is shared counts as often as it is met; a slice's spare places count too). A statement '..UptoSaid' is the law's where the arguments, and the package variables that the reading takes, are together of bulk at most 1048576: NARROWER than '..Said'. Prove '..Said' where nothing that the law and all that it calls make is longer than what came in: it says more and counts as full. Else prove '..UptoSaid'. A law counts once. -/
mutual
def uptoBulk {H : Type} : DataW H → Nat
  | .lit (.string bytes) => bytes.length + 1
  | .lit _ => 1
  | .nil => 1
  | .ptr d => uptoBulk d + 1
  | .slice elems spare => uptoBulkAll elems + uptoBulkAll spare + 1
  | .agg parts => uptoBulkAll parts + 1
  | .iface _ d => uptoBulk d + 1
  | .map entries => uptoBulkEntries entries + 1
  | .held _ => 1
def uptoBulkAll {H : Type} : List (DataW H) → Nat
  | [] => 0
  | d :: r => uptoBulk d + uptoBulkAll r
def uptoBulkEntries {H : Type} : List (Lit × DataW H) → Nat
  | [] => 0
  | x :: r => uptoBulkEntry x + uptoBulkEntries r
def uptoBulkEntry {H : Type} : Lit × DataW H → Nat
  | (.string bytes, d) => bytes.length + uptoBulk d + 1
  | (_, d) => uptoBulk d + 1
 end
def uptoSmall : (H : Type) → List (DataW H) → Bool := fun _ ds => decide (uptoBulkAll ds ≤ 1048576)
def OpenSpec.upto (s : _root_.Go.ChangeSpec) : _root_.Go.OpenSpec := { _root_.Go.OpenSpec.ofChange s with cond := some uptoSmall }

/-- 'wireloomlaw50.TransportMatchesReference', WHERE WHAT IT READS IS OF BULK AT MOST 1048576: true; the input reads as it did. -/
def transportMatchesReferenceUptoRow : OpenClaim := { program := "ytcejljfammcflaa", sum := "e17d64e5f1e47790d7f7f456f214de7e8d97f751e17a5bc6bc54432fff0315d5", func := "wireloom/wireloomlaw50.TransportMatchesReference", spec := "transportMatchesReference", unfollowed := true, recurses := true, apart := false, narrowed := true }
def TransportMatchesReferenceUptoSaid : Prop := transportMatchesReferenceUptoRow.holds Try.pinned (OpenSpec.upto transportMatchesReferenceSpec)

/-- 'wireloomlaw50.TransportDelivers', WHERE WHAT IT READS IS OF BULK AT MOST 1048576: true; the input reads as it did. -/
def transportDeliversUptoRow : OpenClaim := { program := "ytcejljfammcflaa", sum := "e17d64e5f1e47790d7f7f456f214de7e8d97f751e17a5bc6bc54432fff0315d5", func := "wireloom/wireloomlaw50.TransportDelivers", spec := "transportDelivers", unfollowed := true, recurses := true, apart := false, narrowed := true }
def TransportDeliversUptoSaid : Prop := transportDeliversUptoRow.holds Try.pinned (OpenSpec.upto transportDeliversSpec)

/-- 'wireloomlaw50.TransportCompletes', WHERE WHAT IT READS IS OF BULK AT MOST 1048576: true; the input reads as it did. -/
def transportCompletesUptoRow : OpenClaim := { program := "ytcejljfammcflaa", sum := "e17d64e5f1e47790d7f7f456f214de7e8d97f751e17a5bc6bc54432fff0315d5", func := "wireloom/wireloomlaw50.TransportCompletes", spec := "transportCompletes", unfollowed := true, recurses := true, apart := false, narrowed := true }
def TransportCompletesUptoSaid : Prop := transportCompletesUptoRow.holds Try.pinned (OpenSpec.upto transportCompletesSpec)

/-- 'wireloomlaw50.TransportRefuses', WHERE WHAT IT READS IS OF BULK AT MOST 1048576: true; the input reads as it did. -/
def transportRefusesUptoRow : OpenClaim := { program := "ytcejljfammcflaa", sum := "e17d64e5f1e47790d7f7f456f214de7e8d97f751e17a5bc6bc54432fff0315d5", func := "wireloom/wireloomlaw50.TransportRefuses", spec := "transportRefuses", unfollowed := true, recurses := true, apart := false, narrowed := true }
def TransportRefusesUptoSaid : Prop := transportRefusesUptoRow.holds Try.pinned (OpenSpec.upto transportRefusesSpec)

/-- 'wireloomlaw50.TransportIdempotent', WHERE WHAT IT READS IS OF BULK AT MOST 1048576: true; the input reads as it did. -/
def transportIdempotentUptoRow : OpenClaim := { program := "ytcejljfammcflaa", sum := "e17d64e5f1e47790d7f7f456f214de7e8d97f751e17a5bc6bc54432fff0315d5", func := "wireloom/wireloomlaw50.TransportIdempotent", spec := "transportIdempotent", unfollowed := true, recurses := true, apart := false, narrowed := true }
def TransportIdempotentUptoSaid : Prop := transportIdempotentUptoRow.holds Try.pinned (OpenSpec.upto transportIdempotentSpec)

/-- 'wireloomlaw50.TransportMonotone', WHERE WHAT IT READS IS OF BULK AT MOST 1048576: true; the input reads as it did. -/
def transportMonotoneUptoRow : OpenClaim := { program := "ytcejljfammcflaa", sum := "e17d64e5f1e47790d7f7f456f214de7e8d97f751e17a5bc6bc54432fff0315d5", func := "wireloom/wireloomlaw50.TransportMonotone", spec := "transportMonotone", unfollowed := true, recurses := true, apart := false, narrowed := true }
def TransportMonotoneUptoSaid : Prop := transportMonotoneUptoRow.holds Try.pinned (OpenSpec.upto transportMonotoneSpec)

/-- 'wireloomlaw50.TransportWindows', WHERE WHAT IT READS IS OF BULK AT MOST 1048576: true; the input reads as it did. -/
def transportWindowsUptoRow : OpenClaim := { program := "ytcejljfammcflaa", sum := "e17d64e5f1e47790d7f7f456f214de7e8d97f751e17a5bc6bc54432fff0315d5", func := "wireloom/wireloomlaw50.TransportWindows", spec := "transportWindows", unfollowed := true, recurses := true, apart := false, narrowed := true }
def TransportWindowsUptoSaid : Prop := transportWindowsUptoRow.holds Try.pinned (OpenSpec.upto transportWindowsSpec)

end Rows
end Go.Proofs.Ytcejljfammcflaa
