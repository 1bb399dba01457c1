/-
  No cell of these rows narrows 'for every input' (looked for: loops, veiled, ifaces, maps, wideKeys, modest, calm, conditions, laid).
  DERIVED. THE GIVEN ROWS OF THIS SEAT. 12 by the template 'for every input the law returns true; each argument reads behind the call as it read before'; 0 by the template 'total and deterministic' (their statements: YtdfbclkafocnpaaTotals.lean).
  GIVEN WITH THE SEED: the statements are not yours to turn. If you find one false, say at which input.
  Laid BY PROGRAM, IN A SANDBOX (cutbox-rows.mjs): the forced cells as the released guide's own fill.sh prints them over the translation 80c586ed2bd2a2b5… (all of the seat's roots in one cut). By AI agents, Wed Nov 11 2026. No macro, syntax, notation, axiom, sorry.
-/
import Derived.Test.YtdfbclkafocnpaaChecked
import GoSem.Claim
import GoSem.ClaimJoined
import GoSem.ClaimMapViews
import Derived.JoinedTies
import Derived.KernelRfl
namespace Go.Proofs.Ytdfbclkafocnpaa
/- THE CELL 'sum', in the pinned program and in every row, IS THE sha256 OF THE DUMP (.gsa) THAT YtdfbclkafocnpaaProg.lean LOADS. Nothing in Lean hashes anything: it is a label: what it is worth is what the hold of that sum in a sandbox is worth. -/
noncomputable def Try.pinned : Pinned := { name := "ytdfbclkafocnpaa", sum := "80c586ed2bd2a2b5db9cf46d38ca34e57be5b3736fc2c3e896230537aa294d72", checked := Try.checked }
namespace Rows
def none {H : Type} : Left H := { results := [], args := [] }

/-- 'helmsmantop.TopTracesKept': WHATEVER THE INPUT: true; the input reads as it did. -/
def topTracesKeptSpec : ChangeSpec := { name := "topTracesKept", fn := fun _ => fun
  | [d1, d2, d3, d4, d5] => { results := [.lit (.bool true)], args := [d1, d2, d3, d4, d5] }
  | _ => none }
def topTracesKeptRow : OpenClaim := { program := "ytdfbclkafocnpaa", sum := "80c586ed2bd2a2b5db9cf46d38ca34e57be5b3736fc2c3e896230537aa294d72", func := "helmsman/helmsmantop.TopTracesKept", spec := "topTracesKept", unfollowed := true, recurses := true, apart := false }
def TopTracesKeptSaid : Prop := topTracesKeptRow.holds Try.pinned (OpenSpec.ofChange topTracesKeptSpec)

/-- ITS FALSE NEIGHBOUR: 'it returns false'. Refute it at one input. -/
def topTracesKeptWrong : ChangeSpec := { name := "topTracesKept", fn := fun _ => fun
  | [d1, d2, d3, d4, d5] => { results := [.lit (.bool false)], args := [d1, d2, d3, d4, d5] }
  | _ => none }
def TopTracesKeptWrongFalsely : Prop := topTracesKeptRow.holds Try.pinned (OpenSpec.ofChange topTracesKeptWrong)

/-- 'helmsmantop.TopTracesDenied': WHATEVER THE INPUT: true; the input reads as it did. -/
def topTracesDeniedSpec : ChangeSpec := { name := "topTracesDenied", fn := fun _ => fun
  | [d1, d2, d3, d4] => { results := [.lit (.bool true)], args := [d1, d2, d3, d4] }
  | _ => none }
def topTracesDeniedRow : OpenClaim := { program := "ytdfbclkafocnpaa", sum := "80c586ed2bd2a2b5db9cf46d38ca34e57be5b3736fc2c3e896230537aa294d72", func := "helmsman/helmsmantop.TopTracesDenied", spec := "topTracesDenied", unfollowed := true, recurses := true, apart := false }
def TopTracesDeniedSaid : Prop := topTracesDeniedRow.holds Try.pinned (OpenSpec.ofChange topTracesDeniedSpec)

/-- ITS FALSE NEIGHBOUR: 'it returns false'. Refute it at one input. -/
def topTracesDeniedWrong : ChangeSpec := { name := "topTracesDenied", fn := fun _ => fun
  | [d1, d2, d3, d4] => { results := [.lit (.bool false)], args := [d1, d2, d3, d4] }
  | _ => none }
def TopTracesDeniedWrongFalsely : Prop := topTracesDeniedRow.holds Try.pinned (OpenSpec.ofChange topTracesDeniedWrong)

/-- 'helmsmantop.TopTracesTurned': WHATEVER THE INPUT: true; the input reads as it did. -/
def topTracesTurnedSpec : ChangeSpec := { name := "topTracesTurned", fn := fun _ => fun
  | [d1, d2, d3, d4, d5] => { results := [.lit (.bool true)], args := [d1, d2, d3, d4, d5] }
  | _ => none }
def topTracesTurnedRow : OpenClaim := { program := "ytdfbclkafocnpaa", sum := "80c586ed2bd2a2b5db9cf46d38ca34e57be5b3736fc2c3e896230537aa294d72", func := "helmsman/helmsmantop.TopTracesTurned", spec := "topTracesTurned", unfollowed := true, recurses := true, apart := false }
def TopTracesTurnedSaid : Prop := topTracesTurnedRow.holds Try.pinned (OpenSpec.ofChange topTracesTurnedSpec)

/-- ITS FALSE NEIGHBOUR: 'it returns false'. Refute it at one input. -/
def topTracesTurnedWrong : ChangeSpec := { name := "topTracesTurned", fn := fun _ => fun
  | [d1, d2, d3, d4, d5] => { results := [.lit (.bool false)], args := [d1, d2, d3, d4, d5] }
  | _ => none }
def TopTracesTurnedWrongFalsely : Prop := topTracesTurnedRow.holds Try.pinned (OpenSpec.ofChange topTracesTurnedWrong)

/-- 'helmsmantop.TopTracesAbsorbed': WHATEVER THE INPUT: true; the input reads as it did. -/
def topTracesAbsorbedSpec : ChangeSpec := { name := "topTracesAbsorbed", fn := fun _ => fun
  | [d1, d2, d3, d4, d5, d6] => { results := [.lit (.bool true)], args := [d1, d2, d3, d4, d5, d6] }
  | _ => none }
def topTracesAbsorbedRow : OpenClaim := { program := "ytdfbclkafocnpaa", sum := "80c586ed2bd2a2b5db9cf46d38ca34e57be5b3736fc2c3e896230537aa294d72", func := "helmsman/helmsmantop.TopTracesAbsorbed", spec := "topTracesAbsorbed", unfollowed := true, recurses := true, apart := false }
def TopTracesAbsorbedSaid : Prop := topTracesAbsorbedRow.holds Try.pinned (OpenSpec.ofChange topTracesAbsorbedSpec)

/-- ITS FALSE NEIGHBOUR: 'it returns false'. Refute it at one input. -/
def topTracesAbsorbedWrong : ChangeSpec := { name := "topTracesAbsorbed", fn := fun _ => fun
  | [d1, d2, d3, d4, d5, d6] => { results := [.lit (.bool false)], args := [d1, d2, d3, d4, d5, d6] }
  | _ => none }
def TopTracesAbsorbedWrongFalsely : Prop := topTracesAbsorbedRow.holds Try.pinned (OpenSpec.ofChange topTracesAbsorbedWrong)

/-- 'helmsmantop.TopTracesDistributed': WHATEVER THE INPUT: true; the input reads as it did. -/
def topTracesDistributedSpec : ChangeSpec := { name := "topTracesDistributed", fn := fun _ => fun
  | [d1, d2, d3, d4] => { results := [.lit (.bool true)], args := [d1, d2, d3, d4] }
  | _ => none }
def topTracesDistributedRow : OpenClaim := { program := "ytdfbclkafocnpaa", sum := "80c586ed2bd2a2b5db9cf46d38ca34e57be5b3736fc2c3e896230537aa294d72", func := "helmsman/helmsmantop.TopTracesDistributed", spec := "topTracesDistributed", unfollowed := true, recurses := true, apart := false }
def TopTracesDistributedSaid : Prop := topTracesDistributedRow.holds Try.pinned (OpenSpec.ofChange topTracesDistributedSpec)

/-- ITS FALSE NEIGHBOUR: 'it returns false'. Refute it at one input. -/
def topTracesDistributedWrong : ChangeSpec := { name := "topTracesDistributed", fn := fun _ => fun
  | [d1, d2, d3, d4] => { results := [.lit (.bool false)], args := [d1, d2, d3, d4] }
  | _ => none }
def TopTracesDistributedWrongFalsely : Prop := topTracesDistributedRow.holds Try.pinned (OpenSpec.ofChange topTracesDistributedWrong)

/-- 'helmsmantop.TopNextsDenied': WHATEVER THE INPUT: true; the input reads as it did. -/
def topNextsDeniedSpec : ChangeSpec := { name := "topNextsDenied", fn := fun _ => fun
  | [d1, d2, d3, d4] => { results := [.lit (.bool true)], args := [d1, d2, d3, d4] }
  | _ => none }
def topNextsDeniedRow : OpenClaim := { program := "ytdfbclkafocnpaa", sum := "80c586ed2bd2a2b5db9cf46d38ca34e57be5b3736fc2c3e896230537aa294d72", func := "helmsman/helmsmantop.TopNextsDenied", spec := "topNextsDenied", unfollowed := true, recurses := true, apart := false }
def TopNextsDeniedSaid : Prop := topNextsDeniedRow.holds Try.pinned (OpenSpec.ofChange topNextsDeniedSpec)

/-- ITS FALSE NEIGHBOUR: 'it returns false'. Refute it at one input. -/
def topNextsDeniedWrong : ChangeSpec := { name := "topNextsDenied", fn := fun _ => fun
  | [d1, d2, d3, d4] => { results := [.lit (.bool false)], args := [d1, d2, d3, d4] }
  | _ => none }
def TopNextsDeniedWrongFalsely : Prop := topNextsDeniedRow.holds Try.pinned (OpenSpec.ofChange topNextsDeniedWrong)

/-- 'helmsmantop.TopNextsOfBoth': WHATEVER THE INPUT: true; the input reads as it did. -/
def topNextsOfBothSpec : ChangeSpec := { name := "topNextsOfBoth", fn := fun _ => fun
  | [d1, d2, d3, d4] => { results := [.lit (.bool true)], args := [d1, d2, d3, d4] }
  | _ => none }
def topNextsOfBothRow : OpenClaim := { program := "ytdfbclkafocnpaa", sum := "80c586ed2bd2a2b5db9cf46d38ca34e57be5b3736fc2c3e896230537aa294d72", func := "helmsman/helmsmantop.TopNextsOfBoth", spec := "topNextsOfBoth", unfollowed := true, recurses := true, apart := false }
def TopNextsOfBothSaid : Prop := topNextsOfBothRow.holds Try.pinned (OpenSpec.ofChange topNextsOfBothSpec)

/-- ITS FALSE NEIGHBOUR: 'it returns false'. Refute it at one input. -/
def topNextsOfBothWrong : ChangeSpec := { name := "topNextsOfBoth", fn := fun _ => fun
  | [d1, d2, d3, d4] => { results := [.lit (.bool false)], args := [d1, d2, d3, d4] }
  | _ => none }
def TopNextsOfBothWrongFalsely : Prop := topNextsOfBothRow.holds Try.pinned (OpenSpec.ofChange topNextsOfBothWrong)

/-- 'helmsmantop.TopTimesUnrolled': WHATEVER THE INPUT: true; the input reads as it did. -/
def topTimesUnrolledSpec : ChangeSpec := { name := "topTimesUnrolled", fn := fun _ => fun
  | [d1, d2, d3, d4] => { results := [.lit (.bool true)], args := [d1, d2, d3, d4] }
  | _ => none }
def topTimesUnrolledRow : OpenClaim := { program := "ytdfbclkafocnpaa", sum := "80c586ed2bd2a2b5db9cf46d38ca34e57be5b3736fc2c3e896230537aa294d72", func := "helmsman/helmsmantop.TopTimesUnrolled", spec := "topTimesUnrolled", unfollowed := true, recurses := true, apart := false }
def TopTimesUnrolledSaid : Prop := topTimesUnrolledRow.holds Try.pinned (OpenSpec.ofChange topTimesUnrolledSpec)

/-- ITS FALSE NEIGHBOUR: 'it returns false'. Refute it at one input. -/
def topTimesUnrolledWrong : ChangeSpec := { name := "topTimesUnrolled", fn := fun _ => fun
  | [d1, d2, d3, d4] => { results := [.lit (.bool false)], args := [d1, d2, d3, d4] }
  | _ => none }
def TopTimesUnrolledWrongFalsely : Prop := topTimesUnrolledRow.holds Try.pinned (OpenSpec.ofChange topTimesUnrolledWrong)

/-- 'helmsmantop.TopTimesTwice': WHATEVER THE INPUT: true; the input reads as it did. -/
def topTimesTwiceSpec : ChangeSpec := { name := "topTimesTwice", fn := fun _ => fun
  | [d1, d2, d3, d4, d5] => { results := [.lit (.bool true)], args := [d1, d2, d3, d4, d5] }
  | _ => none }
def topTimesTwiceRow : OpenClaim := { program := "ytdfbclkafocnpaa", sum := "80c586ed2bd2a2b5db9cf46d38ca34e57be5b3736fc2c3e896230537aa294d72", func := "helmsman/helmsmantop.TopTimesTwice", spec := "topTimesTwice", unfollowed := true, recurses := true, apart := false }
def TopTimesTwiceSaid : Prop := topTimesTwiceRow.holds Try.pinned (OpenSpec.ofChange topTimesTwiceSpec)

/-- ITS FALSE NEIGHBOUR: 'it returns false'. Refute it at one input. -/
def topTimesTwiceWrong : ChangeSpec := { name := "topTimesTwice", fn := fun _ => fun
  | [d1, d2, d3, d4, d5] => { results := [.lit (.bool false)], args := [d1, d2, d3, d4, d5] }
  | _ => none }
def TopTimesTwiceWrongFalsely : Prop := topTimesTwiceRow.holds Try.pinned (OpenSpec.ofChange topTimesTwiceWrong)

/-- 'helmsmantop.TopUntilWritten': WHATEVER THE INPUT: true; the input reads as it did. -/
def topUntilWrittenSpec : ChangeSpec := { name := "topUntilWritten", fn := fun _ => fun
  | [d1, d2, d3, d4] => { results := [.lit (.bool true)], args := [d1, d2, d3, d4] }
  | _ => none }
def topUntilWrittenRow : OpenClaim := { program := "ytdfbclkafocnpaa", sum := "80c586ed2bd2a2b5db9cf46d38ca34e57be5b3736fc2c3e896230537aa294d72", func := "helmsman/helmsmantop.TopUntilWritten", spec := "topUntilWritten", unfollowed := true, recurses := true, apart := false }
def TopUntilWrittenSaid : Prop := topUntilWrittenRow.holds Try.pinned (OpenSpec.ofChange topUntilWrittenSpec)

/-- ITS FALSE NEIGHBOUR: 'it returns false'. Refute it at one input. -/
def topUntilWrittenWrong : ChangeSpec := { name := "topUntilWritten", fn := fun _ => fun
  | [d1, d2, d3, d4] => { results := [.lit (.bool false)], args := [d1, d2, d3, d4] }
  | _ => none }
def TopUntilWrittenWrongFalsely : Prop := topUntilWrittenRow.holds Try.pinned (OpenSpec.ofChange topUntilWrittenWrong)

/-- 'helmsmantop.TopUntilOfBoth': WHATEVER THE INPUT: true; the input reads as it did. -/
def topUntilOfBothSpec : ChangeSpec := { name := "topUntilOfBoth", fn := fun _ => fun
  | [d1, d2, d3, d4] => { results := [.lit (.bool true)], args := [d1, d2, d3, d4] }
  | _ => none }
def topUntilOfBothRow : OpenClaim := { program := "ytdfbclkafocnpaa", sum := "80c586ed2bd2a2b5db9cf46d38ca34e57be5b3736fc2c3e896230537aa294d72", func := "helmsman/helmsmantop.TopUntilOfBoth", spec := "topUntilOfBoth", unfollowed := true, recurses := true, apart := false }
def TopUntilOfBothSaid : Prop := topUntilOfBothRow.holds Try.pinned (OpenSpec.ofChange topUntilOfBothSpec)

/-- ITS FALSE NEIGHBOUR: 'it returns false'. Refute it at one input. -/
def topUntilOfBothWrong : ChangeSpec := { name := "topUntilOfBoth", fn := fun _ => fun
  | [d1, d2, d3, d4] => { results := [.lit (.bool false)], args := [d1, d2, d3, d4] }
  | _ => none }
def TopUntilOfBothWrongFalsely : Prop := topUntilOfBothRow.holds Try.pinned (OpenSpec.ofChange topUntilOfBothWrong)

/-- 'helmsmantop.TopTimesOfNext': WHATEVER THE INPUT: true; the input reads as it did. -/
def topTimesOfNextSpec : ChangeSpec := { name := "topTimesOfNext", fn := fun _ => fun
  | [d1, d2, d3, d4] => { results := [.lit (.bool true)], args := [d1, d2, d3, d4] }
  | _ => none }
def topTimesOfNextRow : OpenClaim := { program := "ytdfbclkafocnpaa", sum := "80c586ed2bd2a2b5db9cf46d38ca34e57be5b3736fc2c3e896230537aa294d72", func := "helmsman/helmsmantop.TopTimesOfNext", spec := "topTimesOfNext", unfollowed := true, recurses := true, apart := false }
def TopTimesOfNextSaid : Prop := topTimesOfNextRow.holds Try.pinned (OpenSpec.ofChange topTimesOfNextSpec)

/-- ITS FALSE NEIGHBOUR: 'it returns false'. Refute it at one input. -/
def topTimesOfNextWrong : ChangeSpec := { name := "topTimesOfNext", fn := fun _ => fun
  | [d1, d2, d3, d4] => { results := [.lit (.bool false)], args := [d1, d2, d3, d4] }
  | _ => none }
def TopTimesOfNextWrongFalsely : Prop := topTimesOfNextRow.holds Try.pinned (OpenSpec.ofChange topTimesOfNextWrong)

/- THE SECOND FORM. 'bulk': how many values and letters a reading holds, each counted each time it is reached (what is shared counts as often as it is met; a slice's spare places count too). A statement '..UptoSaid' is the law's where the arguments, and the package variables that the reading takes, are together of bulk at most 1048576: NARROWER than '..Said'. Prove '..Said' where nothing that the law and all that it calls make is longer than what came in: it says more and counts as full. Else prove '..UptoSaid'. A law counts once. -/
mutual
def uptoBulk {H : Type} : DataW H → Nat
  | .lit (.string bytes) => bytes.length + 1
  | .lit _ => 1
  | .nil => 1
  | .ptr d => uptoBulk d + 1
  | .slice elems spare => uptoBulkAll elems + uptoBulkAll spare + 1
  | .agg parts => uptoBulkAll parts + 1
  | .iface _ d => uptoBulk d + 1
  | .map entries => uptoBulkEntries entries + 1
  | .held _ => 1
def uptoBulkAll {H : Type} : List (DataW H) → Nat
  | [] => 0
  | d :: r => uptoBulk d + uptoBulkAll r
def uptoBulkEntries {H : Type} : List (Lit × DataW H) → Nat
  | [] => 0
  | x :: r => uptoBulkEntry x + uptoBulkEntries r
def uptoBulkEntry {H : Type} : Lit × DataW H → Nat
  | (.string bytes, d) => bytes.length + uptoBulk d + 1
  | (_, d) => uptoBulk d + 1
 end
def uptoSmall : (H : Type) → List (DataW H) → Bool := fun _ ds => decide (uptoBulkAll ds ≤ 1048576)
def OpenSpec.upto (s : _root_.Go.ChangeSpec) : _root_.Go.OpenSpec := { _root_.Go.OpenSpec.ofChange s with cond := some uptoSmall }

/-- 'helmsmantop.TopTracesKept', WHERE WHAT IT READS IS OF BULK AT MOST 1048576: true; the input reads as it did. -/
def topTracesKeptUptoRow : OpenClaim := { program := "ytdfbclkafocnpaa", sum := "80c586ed2bd2a2b5db9cf46d38ca34e57be5b3736fc2c3e896230537aa294d72", func := "helmsman/helmsmantop.TopTracesKept", spec := "topTracesKept", unfollowed := true, recurses := true, apart := false, narrowed := true }
def TopTracesKeptUptoSaid : Prop := topTracesKeptUptoRow.holds Try.pinned (OpenSpec.upto topTracesKeptSpec)

/-- 'helmsmantop.TopTracesDenied', WHERE WHAT IT READS IS OF BULK AT MOST 1048576: true; the input reads as it did. -/
def topTracesDeniedUptoRow : OpenClaim := { program := "ytdfbclkafocnpaa", sum := "80c586ed2bd2a2b5db9cf46d38ca34e57be5b3736fc2c3e896230537aa294d72", func := "helmsman/helmsmantop.TopTracesDenied", spec := "topTracesDenied", unfollowed := true, recurses := true, apart := false, narrowed := true }
def TopTracesDeniedUptoSaid : Prop := topTracesDeniedUptoRow.holds Try.pinned (OpenSpec.upto topTracesDeniedSpec)

/-- 'helmsmantop.TopTracesTurned', WHERE WHAT IT READS IS OF BULK AT MOST 1048576: true; the input reads as it did. -/
def topTracesTurnedUptoRow : OpenClaim := { program := "ytdfbclkafocnpaa", sum := "80c586ed2bd2a2b5db9cf46d38ca34e57be5b3736fc2c3e896230537aa294d72", func := "helmsman/helmsmantop.TopTracesTurned", spec := "topTracesTurned", unfollowed := true, recurses := true, apart := false, narrowed := true }
def TopTracesTurnedUptoSaid : Prop := topTracesTurnedUptoRow.holds Try.pinned (OpenSpec.upto topTracesTurnedSpec)

/-- 'helmsmantop.TopTracesAbsorbed', WHERE WHAT IT READS IS OF BULK AT MOST 1048576: true; the input reads as it did. -/
def topTracesAbsorbedUptoRow : OpenClaim := { program := "ytdfbclkafocnpaa", sum := "80c586ed2bd2a2b5db9cf46d38ca34e57be5b3736fc2c3e896230537aa294d72", func := "helmsman/helmsmantop.TopTracesAbsorbed", spec := "topTracesAbsorbed", unfollowed := true, recurses := true, apart := false, narrowed := true }
def TopTracesAbsorbedUptoSaid : Prop := topTracesAbsorbedUptoRow.holds Try.pinned (OpenSpec.upto topTracesAbsorbedSpec)

/-- 'helmsmantop.TopTracesDistributed', WHERE WHAT IT READS IS OF BULK AT MOST 1048576: true; the input reads as it did. -/
def topTracesDistributedUptoRow : OpenClaim := { program := "ytdfbclkafocnpaa", sum := "80c586ed2bd2a2b5db9cf46d38ca34e57be5b3736fc2c3e896230537aa294d72", func := "helmsman/helmsmantop.TopTracesDistributed", spec := "topTracesDistributed", unfollowed := true, recurses := true, apart := false, narrowed := true }
def TopTracesDistributedUptoSaid : Prop := topTracesDistributedUptoRow.holds Try.pinned (OpenSpec.upto topTracesDistributedSpec)

/-- 'helmsmantop.TopNextsDenied', WHERE WHAT IT READS IS OF BULK AT MOST 1048576: true; the input reads as it did. -/
def topNextsDeniedUptoRow : OpenClaim := { program := "ytdfbclkafocnpaa", sum := "80c586ed2bd2a2b5db9cf46d38ca34e57be5b3736fc2c3e896230537aa294d72", func := "helmsman/helmsmantop.TopNextsDenied", spec := "topNextsDenied", unfollowed := true, recurses := true, apart := false, narrowed := true }
def TopNextsDeniedUptoSaid : Prop := topNextsDeniedUptoRow.holds Try.pinned (OpenSpec.upto topNextsDeniedSpec)

/-- 'helmsmantop.TopNextsOfBoth', WHERE WHAT IT READS IS OF BULK AT MOST 1048576: true; the input reads as it did. -/
def topNextsOfBothUptoRow : OpenClaim := { program := "ytdfbclkafocnpaa", sum := "80c586ed2bd2a2b5db9cf46d38ca34e57be5b3736fc2c3e896230537aa294d72", func := "helmsman/helmsmantop.TopNextsOfBoth", spec := "topNextsOfBoth", unfollowed := true, recurses := true, apart := false, narrowed := true }
def TopNextsOfBothUptoSaid : Prop := topNextsOfBothUptoRow.holds Try.pinned (OpenSpec.upto topNextsOfBothSpec)

/-- 'helmsmantop.TopTimesUnrolled', WHERE WHAT IT READS IS OF BULK AT MOST 1048576: true; the input reads as it did. -/
def topTimesUnrolledUptoRow : OpenClaim := { program := "ytdfbclkafocnpaa", sum := "80c586ed2bd2a2b5db9cf46d38ca34e57be5b3736fc2c3e896230537aa294d72", func := "helmsman/helmsmantop.TopTimesUnrolled", spec := "topTimesUnrolled", unfollowed := true, recurses := true, apart := false, narrowed := true }
def TopTimesUnrolledUptoSaid : Prop := topTimesUnrolledUptoRow.holds Try.pinned (OpenSpec.upto topTimesUnrolledSpec)

/-- 'helmsmantop.TopTimesTwice', WHERE WHAT IT READS IS OF BULK AT MOST 1048576: true; the input reads as it did. -/
def topTimesTwiceUptoRow : OpenClaim := { program := "ytdfbclkafocnpaa", sum := "80c586ed2bd2a2b5db9cf46d38ca34e57be5b3736fc2c3e896230537aa294d72", func := "helmsman/helmsmantop.TopTimesTwice", spec := "topTimesTwice", unfollowed := true, recurses := true, apart := false, narrowed := true }
def TopTimesTwiceUptoSaid : Prop := topTimesTwiceUptoRow.holds Try.pinned (OpenSpec.upto topTimesTwiceSpec)

/-- 'helmsmantop.TopUntilWritten', WHERE WHAT IT READS IS OF BULK AT MOST 1048576: true; the input reads as it did. -/
def topUntilWrittenUptoRow : OpenClaim := { program := "ytdfbclkafocnpaa", sum := "80c586ed2bd2a2b5db9cf46d38ca34e57be5b3736fc2c3e896230537aa294d72", func := "helmsman/helmsmantop.TopUntilWritten", spec := "topUntilWritten", unfollowed := true, recurses := true, apart := false, narrowed := true }
def TopUntilWrittenUptoSaid : Prop := topUntilWrittenUptoRow.holds Try.pinned (OpenSpec.upto topUntilWrittenSpec)

/-- 'helmsmantop.TopUntilOfBoth', WHERE WHAT IT READS IS OF BULK AT MOST 1048576: true; the input reads as it did. -/
def topUntilOfBothUptoRow : OpenClaim := { program := "ytdfbclkafocnpaa", sum := "80c586ed2bd2a2b5db9cf46d38ca34e57be5b3736fc2c3e896230537aa294d72", func := "helmsman/helmsmantop.TopUntilOfBoth", spec := "topUntilOfBoth", unfollowed := true, recurses := true, apart := false, narrowed := true }
def TopUntilOfBothUptoSaid : Prop := topUntilOfBothUptoRow.holds Try.pinned (OpenSpec.upto topUntilOfBothSpec)

/-- 'helmsmantop.TopTimesOfNext', WHERE WHAT IT READS IS OF BULK AT MOST 1048576: true; the input reads as it did. -/
def topTimesOfNextUptoRow : OpenClaim := { program := "ytdfbclkafocnpaa", sum := "80c586ed2bd2a2b5db9cf46d38ca34e57be5b3736fc2c3e896230537aa294d72", func := "helmsman/helmsmantop.TopTimesOfNext", spec := "topTimesOfNext", unfollowed := true, recurses := true, apart := false, narrowed := true }
def TopTimesOfNextUptoSaid : Prop := topTimesOfNextUptoRow.holds Try.pinned (OpenSpec.upto topTimesOfNextSpec)

end Rows
end Go.Proofs.Ytdfbclkafocnpaa
