/-
  No cell of these rows narrows 'for every input' (looked for: loops, veiled, ifaces, maps, wideKeys, modest, calm, conditions, laid).
  DERIVED. THE GIVEN ROWS OF THIS SEAT. 4 by the template 'for every input the law returns true; each argument reads behind the call as it read before'; 0 by the template 'total and deterministic' (their statements: YtpjpgcjhdbiepaaGreatTotals.lean).
  GIVEN WITH THE SEED: the statements are not yours to turn. If you find one false, say at which input.
  Laid BY PROGRAM, IN A SANDBOX (cutbox-rows.mjs): the forced cells as the released guide's own fill.sh prints them over the translation 8eb91f34b7619462… (all of the seat's roots in one cut). By AI agents, Wed Nov 11 2026. No macro, syntax, notation, axiom, sorry.
-/
import Derived.Test.YtpjpgcjhdbiepaaGreatChecked
import GoSem.Claim
import GoSem.ClaimJoined
import GoSem.ClaimMapViews
import Derived.JoinedTies
import Derived.KernelRfl
namespace Go.Proofs.YtpjpgcjhdbiepaaGreat
/- THE CELL 'sum', in the pinned program and in every row, IS THE sha256 OF THE DUMP (.gsa) THAT YtpjpgcjhdbiepaaGreatProg.lean LOADS. Nothing in Lean hashes anything: it is a label: what it is worth is what the hold of that sum in a sandbox is worth. -/
noncomputable def Tryz.pinned : Pinned := { name := "ytpjpgcjhdbiepaagreat", sum := "8eb91f34b76194625f20eb35a19bfa80c2095c7387ec558759488ddfc3ec8507", checked := Tryz.checked }
namespace Rows
def none {H : Type} : Left H := { results := [], args := [] }

/-- 'treadlelaw08.StreamOwn': WHATEVER THE INPUT: true; the input reads as it did. -/
def streamOwnSpec : ChangeSpec := { name := "streamOwn", fn := fun _ => fun
  | [d1, d2] => { results := [.lit (.bool true)], args := [d1, d2] }
  | _ => none }
def streamOwnRow : OpenClaim := { program := "ytpjpgcjhdbiepaagreat", sum := "8eb91f34b76194625f20eb35a19bfa80c2095c7387ec558759488ddfc3ec8507", func := "treadle/treadlelaw08.StreamOwn", spec := "streamOwn", unfollowed := true, recurses := true, apart := false }
def StreamOwnSaid : Prop := streamOwnRow.holds Tryz.pinned (OpenSpec.ofChange streamOwnSpec)

/-- ITS FALSE NEIGHBOUR: 'it returns false'. Refute it at one input. -/
def streamOwnWrong : ChangeSpec := { name := "streamOwn", fn := fun _ => fun
  | [d1, d2] => { results := [.lit (.bool false)], args := [d1, d2] }
  | _ => none }
def StreamOwnWrongFalsely : Prop := streamOwnRow.holds Tryz.pinned (OpenSpec.ofChange streamOwnWrong)

/-- 'treadlelaw08.StreamPlays': WHATEVER THE INPUT: true; the input reads as it did. -/
def streamPlaysSpec : ChangeSpec := { name := "streamPlays", fn := fun _ => fun
  | [d1, d2] => { results := [.lit (.bool true)], args := [d1, d2] }
  | _ => none }
def streamPlaysRow : OpenClaim := { program := "ytpjpgcjhdbiepaagreat", sum := "8eb91f34b76194625f20eb35a19bfa80c2095c7387ec558759488ddfc3ec8507", func := "treadle/treadlelaw08.StreamPlays", spec := "streamPlays", unfollowed := true, recurses := true, apart := false }
def StreamPlaysSaid : Prop := streamPlaysRow.holds Tryz.pinned (OpenSpec.ofChange streamPlaysSpec)

/-- ITS FALSE NEIGHBOUR: 'it returns false'. Refute it at one input. -/
def streamPlaysWrong : ChangeSpec := { name := "streamPlays", fn := fun _ => fun
  | [d1, d2] => { results := [.lit (.bool false)], args := [d1, d2] }
  | _ => none }
def StreamPlaysWrongFalsely : Prop := streamPlaysRow.holds Tryz.pinned (OpenSpec.ofChange streamPlaysWrong)

/-- 'treadlelaw08.StreamSplits': WHATEVER THE INPUT: true; the input reads as it did. -/
def streamSplitsSpec : ChangeSpec := { name := "streamSplits", fn := fun _ => fun
  | [d] => { results := [.lit (.bool true)], args := [d] }
  | _ => none }
def streamSplitsRow : OpenClaim := { program := "ytpjpgcjhdbiepaagreat", sum := "8eb91f34b76194625f20eb35a19bfa80c2095c7387ec558759488ddfc3ec8507", func := "treadle/treadlelaw08.StreamSplits", spec := "streamSplits", unfollowed := true, recurses := true, apart := false }
def StreamSplitsSaid : Prop := streamSplitsRow.holds Tryz.pinned (OpenSpec.ofChange streamSplitsSpec)

/-- ITS FALSE NEIGHBOUR: 'it returns false'. Refute it at one input. -/
def streamSplitsWrong : ChangeSpec := { name := "streamSplits", fn := fun _ => fun
  | [d] => { results := [.lit (.bool false)], args := [d] }
  | _ => none }
def StreamSplitsWrongFalsely : Prop := streamSplitsRow.holds Tryz.pinned (OpenSpec.ofChange streamSplitsWrong)

/-- 'treadlelaw08.StreamFrames': WHATEVER THE INPUT: true; the input reads as it did. -/
def streamFramesSpec : ChangeSpec := { name := "streamFrames", fn := fun _ => fun
  | [d] => { results := [.lit (.bool true)], args := [d] }
  | _ => none }
def streamFramesRow : OpenClaim := { program := "ytpjpgcjhdbiepaagreat", sum := "8eb91f34b76194625f20eb35a19bfa80c2095c7387ec558759488ddfc3ec8507", func := "treadle/treadlelaw08.StreamFrames", spec := "streamFrames", unfollowed := true, recurses := true, apart := false }
def StreamFramesSaid : Prop := streamFramesRow.holds Tryz.pinned (OpenSpec.ofChange streamFramesSpec)

/-- ITS FALSE NEIGHBOUR: 'it returns false'. Refute it at one input. -/
def streamFramesWrong : ChangeSpec := { name := "streamFrames", fn := fun _ => fun
  | [d] => { results := [.lit (.bool false)], args := [d] }
  | _ => none }
def StreamFramesWrongFalsely : Prop := streamFramesRow.holds Tryz.pinned (OpenSpec.ofChange streamFramesWrong)

/- THE SECOND FORM. 'bulk': how many values and letters a reading holds, each counted each time it is reached (what is shared counts as often as it is met; a slice's spare places count too). A statement '..UptoSaid' is the law's where the arguments, and the package variables that the reading takes, are together of bulk at most 1048576: NARROWER than '..Said'. Prove '..Said' where nothing that the law and all that it calls make is longer than what came in: it says more and counts as full. Else prove '..UptoSaid'. A law counts once. -/
mutual
def uptoBulk {H : Type} : DataW H → Nat
  | .lit (.string bytes) => bytes.length + 1
  | .lit _ => 1
  | .nil => 1
  | .ptr d => uptoBulk d + 1
  | .slice elems spare => uptoBulkAll elems + uptoBulkAll spare + 1
  | .agg parts => uptoBulkAll parts + 1
  | .iface _ d => uptoBulk d + 1
  | .map entries => uptoBulkEntries entries + 1
  | .held _ => 1
def uptoBulkAll {H : Type} : List (DataW H) → Nat
  | [] => 0
  | d :: r => uptoBulk d + uptoBulkAll r
def uptoBulkEntries {H : Type} : List (Lit × DataW H) → Nat
  | [] => 0
  | x :: r => uptoBulkEntry x + uptoBulkEntries r
def uptoBulkEntry {H : Type} : Lit × DataW H → Nat
  | (.string bytes, d) => bytes.length + uptoBulk d + 1
  | (_, d) => uptoBulk d + 1
 end
def uptoSmall : (H : Type) → List (DataW H) → Bool := fun _ ds => decide (uptoBulkAll ds ≤ 1048576)
def OpenSpec.upto (s : _root_.Go.ChangeSpec) : _root_.Go.OpenSpec := { _root_.Go.OpenSpec.ofChange s with cond := some uptoSmall }

/-- 'treadlelaw08.StreamOwn', WHERE WHAT IT READS IS OF BULK AT MOST 1048576: true; the input reads as it did. -/
def streamOwnUptoRow : OpenClaim := { program := "ytpjpgcjhdbiepaagreat", sum := "8eb91f34b76194625f20eb35a19bfa80c2095c7387ec558759488ddfc3ec8507", func := "treadle/treadlelaw08.StreamOwn", spec := "streamOwn", unfollowed := true, recurses := true, apart := false, narrowed := true }
def StreamOwnUptoSaid : Prop := streamOwnUptoRow.holds Tryz.pinned (OpenSpec.upto streamOwnSpec)

/-- 'treadlelaw08.StreamPlays', WHERE WHAT IT READS IS OF BULK AT MOST 1048576: true; the input reads as it did. -/
def streamPlaysUptoRow : OpenClaim := { program := "ytpjpgcjhdbiepaagreat", sum := "8eb91f34b76194625f20eb35a19bfa80c2095c7387ec558759488ddfc3ec8507", func := "treadle/treadlelaw08.StreamPlays", spec := "streamPlays", unfollowed := true, recurses := true, apart := false, narrowed := true }
def StreamPlaysUptoSaid : Prop := streamPlaysUptoRow.holds Tryz.pinned (OpenSpec.upto streamPlaysSpec)

/-- 'treadlelaw08.StreamSplits', WHERE WHAT IT READS IS OF BULK AT MOST 1048576: true; the input reads as it did. -/
def streamSplitsUptoRow : OpenClaim := { program := "ytpjpgcjhdbiepaagreat", sum := "8eb91f34b76194625f20eb35a19bfa80c2095c7387ec558759488ddfc3ec8507", func := "treadle/treadlelaw08.StreamSplits", spec := "streamSplits", unfollowed := true, recurses := true, apart := false, narrowed := true }
def StreamSplitsUptoSaid : Prop := streamSplitsUptoRow.holds Tryz.pinned (OpenSpec.upto streamSplitsSpec)

/-- 'treadlelaw08.StreamFrames', WHERE WHAT IT READS IS OF BULK AT MOST 1048576: true; the input reads as it did. -/
def streamFramesUptoRow : OpenClaim := { program := "ytpjpgcjhdbiepaagreat", sum := "8eb91f34b76194625f20eb35a19bfa80c2095c7387ec558759488ddfc3ec8507", func := "treadle/treadlelaw08.StreamFrames", spec := "streamFrames", unfollowed := true, recurses := true, apart := false, narrowed := true }
def StreamFramesUptoSaid : Prop := streamFramesUptoRow.holds Tryz.pinned (OpenSpec.upto streamFramesSpec)

end Rows
end Go.Proofs.YtpjpgcjhdbiepaaGreat
