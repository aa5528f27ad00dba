/-
  No cell of these rows narrows 'for every input' (looked for: loops, veiled, ifaces, maps, wideKeys, modest, calm, conditions, laid).
  DERIVED. THE GIVEN ROWS OF THIS SEAT. 4 by the template 'for every input the law returns true; each argument reads behind the call as it read before'; 0 by the template 'total and deterministic' (their statements: YtpjpgcjhdbiepaaTotals.lean).
  GIVEN WITH THE SEED: the statements are not yours to turn. If you find one false, say at which input.
  Laid BY PROGRAM, IN A SANDBOX (cutbox-rows.mjs): the forced cells as the released guide's own fill.sh prints them over the translation 1ede87a768efce55… (all of the seat's roots in one cut). By AI agents, Wed Nov 11 2026. No macro, syntax, notation, axiom, sorry.
-/
import Derived.Test.YtpjpgcjhdbiepaaChecked
import GoSem.Claim
import GoSem.ClaimJoined
import GoSem.ClaimMapViews
import Derived.JoinedTies
import Derived.KernelRfl
namespace Go.Proofs.Ytpjpgcjhdbiepaa
/- THE CELL 'sum', in the pinned program and in every row, IS THE sha256 OF THE DUMP (.gsa) THAT YtpjpgcjhdbiepaaProg.lean LOADS. Nothing in Lean hashes anything: it is a label: what it is worth is what the hold of that sum in a sandbox is worth. -/
noncomputable def Try.pinned : Pinned := { name := "ytpjpgcjhdbiepaa", sum := "1ede87a768efce55c5bd8b673a6bfa72d8d5d16f17a277ac13d9439efe3bb258", checked := Try.checked }
namespace Rows
def none {H : Type} : Left H := { results := [], args := [] }

/-- 'treadlelaw08.StreamThrough': WHATEVER THE INPUT: true; the input reads as it did. -/
def streamThroughSpec : ChangeSpec := { name := "streamThrough", fn := fun _ => fun
  | [d1, d2] => { results := [.lit (.bool true)], args := [d1, d2] }
  | _ => none }
def streamThroughRow : OpenClaim := { program := "ytpjpgcjhdbiepaa", sum := "1ede87a768efce55c5bd8b673a6bfa72d8d5d16f17a277ac13d9439efe3bb258", func := "treadle/treadlelaw08.StreamThrough", spec := "streamThrough", unfollowed := true, recurses := true, apart := false }
def StreamThroughSaid : Prop := streamThroughRow.holds Try.pinned (OpenSpec.ofChange streamThroughSpec)

/-- ITS FALSE NEIGHBOUR: 'it returns false'. Refute it at one input. -/
def streamThroughWrong : ChangeSpec := { name := "streamThrough", fn := fun _ => fun
  | [d1, d2] => { results := [.lit (.bool false)], args := [d1, d2] }
  | _ => none }
def StreamThroughWrongFalsely : Prop := streamThroughRow.holds Try.pinned (OpenSpec.ofChange streamThroughWrong)

/-- 'treadlelaw08.StreamCuts': WHATEVER THE INPUT: true; the input reads as it did. -/
def streamCutsSpec : ChangeSpec := { name := "streamCuts", fn := fun _ => fun
  | [d1, d2] => { results := [.lit (.bool true)], args := [d1, d2] }
  | _ => none }
def streamCutsRow : OpenClaim := { program := "ytpjpgcjhdbiepaa", sum := "1ede87a768efce55c5bd8b673a6bfa72d8d5d16f17a277ac13d9439efe3bb258", func := "treadle/treadlelaw08.StreamCuts", spec := "streamCuts", unfollowed := true, recurses := true, apart := false }
def StreamCutsSaid : Prop := streamCutsRow.holds Try.pinned (OpenSpec.ofChange streamCutsSpec)

/-- ITS FALSE NEIGHBOUR: 'it returns false'. Refute it at one input. -/
def streamCutsWrong : ChangeSpec := { name := "streamCuts", fn := fun _ => fun
  | [d1, d2] => { results := [.lit (.bool false)], args := [d1, d2] }
  | _ => none }
def StreamCutsWrongFalsely : Prop := streamCutsRow.holds Try.pinned (OpenSpec.ofChange streamCutsWrong)

/-- 'treadlelaw08.StreamPoisoned': WHATEVER THE INPUT: true; the input reads as it did. -/
def streamPoisonedSpec : ChangeSpec := { name := "streamPoisoned", fn := fun _ => fun
  | [d1, d2] => { results := [.lit (.bool true)], args := [d1, d2] }
  | _ => none }
def streamPoisonedRow : OpenClaim := { program := "ytpjpgcjhdbiepaa", sum := "1ede87a768efce55c5bd8b673a6bfa72d8d5d16f17a277ac13d9439efe3bb258", func := "treadle/treadlelaw08.StreamPoisoned", spec := "streamPoisoned", unfollowed := true, recurses := true, apart := false }
def StreamPoisonedSaid : Prop := streamPoisonedRow.holds Try.pinned (OpenSpec.ofChange streamPoisonedSpec)

/-- ITS FALSE NEIGHBOUR: 'it returns false'. Refute it at one input. -/
def streamPoisonedWrong : ChangeSpec := { name := "streamPoisoned", fn := fun _ => fun
  | [d1, d2] => { results := [.lit (.bool false)], args := [d1, d2] }
  | _ => none }
def StreamPoisonedWrongFalsely : Prop := streamPoisonedRow.holds Try.pinned (OpenSpec.ofChange streamPoisonedWrong)

/-- 'treadlelaw08.StreamNobody': WHATEVER THE INPUT: true; the input reads as it did. -/
def streamNobodySpec : ChangeSpec := { name := "streamNobody", fn := fun _ => fun
  | [d1, d2] => { results := [.lit (.bool true)], args := [d1, d2] }
  | _ => none }
def streamNobodyRow : OpenClaim := { program := "ytpjpgcjhdbiepaa", sum := "1ede87a768efce55c5bd8b673a6bfa72d8d5d16f17a277ac13d9439efe3bb258", func := "treadle/treadlelaw08.StreamNobody", spec := "streamNobody", unfollowed := true, recurses := true, apart := false }
def StreamNobodySaid : Prop := streamNobodyRow.holds Try.pinned (OpenSpec.ofChange streamNobodySpec)

/-- ITS FALSE NEIGHBOUR: 'it returns false'. Refute it at one input. -/
def streamNobodyWrong : ChangeSpec := { name := "streamNobody", fn := fun _ => fun
  | [d1, d2] => { results := [.lit (.bool false)], args := [d1, d2] }
  | _ => none }
def StreamNobodyWrongFalsely : Prop := streamNobodyRow.holds Try.pinned (OpenSpec.ofChange streamNobodyWrong)

/- THE SECOND FORM. 'bulk': how many values and letters a reading holds, each counted each time it is reached (what is shared counts as often as it is met; a slice's spare places count too). A statement '..UptoSaid' is the law's where the arguments, and the package variables that the reading takes, are together of bulk at most 1048576: NARROWER than '..Said'. Prove '..Said' where nothing that the law and all that it calls make is longer than what came in: it says more and counts as full. Else prove '..UptoSaid'. A law counts once. -/
mutual
def uptoBulk {H : Type} : DataW H → Nat
  | .lit (.string bytes) => bytes.length + 1
  | .lit _ => 1
  | .nil => 1
  | .ptr d => uptoBulk d + 1
  | .slice elems spare => uptoBulkAll elems + uptoBulkAll spare + 1
  | .agg parts => uptoBulkAll parts + 1
  | .iface _ d => uptoBulk d + 1
  | .map entries => uptoBulkEntries entries + 1
  | .held _ => 1
def uptoBulkAll {H : Type} : List (DataW H) → Nat
  | [] => 0
  | d :: r => uptoBulk d + uptoBulkAll r
def uptoBulkEntries {H : Type} : List (Lit × DataW H) → Nat
  | [] => 0
  | x :: r => uptoBulkEntry x + uptoBulkEntries r
def uptoBulkEntry {H : Type} : Lit × DataW H → Nat
  | (.string bytes, d) => bytes.length + uptoBulk d + 1
  | (_, d) => uptoBulk d + 1
 end
def uptoSmall : (H : Type) → List (DataW H) → Bool := fun _ ds => decide (uptoBulkAll ds ≤ 1048576)
def OpenSpec.upto (s : _root_.Go.ChangeSpec) : _root_.Go.OpenSpec := { _root_.Go.OpenSpec.ofChange s with cond := some uptoSmall }

/-- 'treadlelaw08.StreamThrough', WHERE WHAT IT READS IS OF BULK AT MOST 1048576: true; the input reads as it did. -/
def streamThroughUptoRow : OpenClaim := { program := "ytpjpgcjhdbiepaa", sum := "1ede87a768efce55c5bd8b673a6bfa72d8d5d16f17a277ac13d9439efe3bb258", func := "treadle/treadlelaw08.StreamThrough", spec := "streamThrough", unfollowed := true, recurses := true, apart := false, narrowed := true }
def StreamThroughUptoSaid : Prop := streamThroughUptoRow.holds Try.pinned (OpenSpec.upto streamThroughSpec)

/-- 'treadlelaw08.StreamCuts', WHERE WHAT IT READS IS OF BULK AT MOST 1048576: true; the input reads as it did. -/
def streamCutsUptoRow : OpenClaim := { program := "ytpjpgcjhdbiepaa", sum := "1ede87a768efce55c5bd8b673a6bfa72d8d5d16f17a277ac13d9439efe3bb258", func := "treadle/treadlelaw08.StreamCuts", spec := "streamCuts", unfollowed := true, recurses := true, apart := false, narrowed := true }
def StreamCutsUptoSaid : Prop := streamCutsUptoRow.holds Try.pinned (OpenSpec.upto streamCutsSpec)

/-- 'treadlelaw08.StreamPoisoned', WHERE WHAT IT READS IS OF BULK AT MOST 1048576: true; the input reads as it did. -/
def streamPoisonedUptoRow : OpenClaim := { program := "ytpjpgcjhdbiepaa", sum := "1ede87a768efce55c5bd8b673a6bfa72d8d5d16f17a277ac13d9439efe3bb258", func := "treadle/treadlelaw08.StreamPoisoned", spec := "streamPoisoned", unfollowed := true, recurses := true, apart := false, narrowed := true }
def StreamPoisonedUptoSaid : Prop := streamPoisonedUptoRow.holds Try.pinned (OpenSpec.upto streamPoisonedSpec)

/-- 'treadlelaw08.StreamNobody', WHERE WHAT IT READS IS OF BULK AT MOST 1048576: true; the input reads as it did. -/
def streamNobodyUptoRow : OpenClaim := { program := "ytpjpgcjhdbiepaa", sum := "1ede87a768efce55c5bd8b673a6bfa72d8d5d16f17a277ac13d9439efe3bb258", func := "treadle/treadlelaw08.StreamNobody", spec := "streamNobody", unfollowed := true, recurses := true, apart := false, narrowed := true }
def StreamNobodyUptoSaid : Prop := streamNobodyUptoRow.holds Try.pinned (OpenSpec.upto streamNobodySpec)

end Rows
end Go.Proofs.Ytpjpgcjhdbiepaa
