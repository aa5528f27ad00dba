/-
  No cell of these rows narrows 'for every input' (looked for: loops, veiled, ifaces, maps, wideKeys, modest, calm, conditions, laid).
  DERIVED. THE GIVEN ROWS OF THIS SEAT. 7 by the template 'for every input the law returns true; each argument reads behind the call as it read before'; 0 by the template 'total and deterministic' (their statements: YtodhcgidmdeifaaTotals.lean).
  GIVEN WITH THE SEED: the statements are not yours to turn. If you find one false, say at which input.
  Laid BY PROGRAM, IN A SANDBOX (cutbox-rows.mjs): the forced cells as the released guide's own fill.sh prints them over the translation c345451663c90a70… (all of the seat's roots in one cut). By AI agents, Wed Nov 11 2026. No macro, syntax, notation, axiom, sorry.
-/
import Derived.Test.YtodhcgidmdeifaaChecked
import GoSem.Claim
import GoSem.ClaimJoined
import GoSem.ClaimMapViews
import Derived.JoinedTies
import Derived.KernelRfl
namespace Go.Proofs.Ytodhcgidmdeifaa
/- THE CELL 'sum', in the pinned program and in every row, IS THE sha256 OF THE DUMP (.gsa) THAT YtodhcgidmdeifaaProg.lean LOADS. Nothing in Lean hashes anything: it is a label: what it is worth is what the hold of that sum in a sandbox is worth. -/
noncomputable def Try.pinned : Pinned := { name := "ytodhcgidmdeifaa", sum := "c345451663c90a7061ff887aba667bc0c397bee54acd965cabeabfb41a6d3de9", checked := Try.checked }
namespace Rows
def none {H : Type} : Left H := { results := [], args := [] }

/-- 'treadlelaw09.DuctOwn': WHATEVER THE INPUT: true; the input reads as it did. -/
def ductOwnSpec : ChangeSpec := { name := "ductOwn", fn := fun _ => fun
  | [d1, d2] => { results := [.lit (.bool true)], args := [d1, d2] }
  | _ => none }
def ductOwnRow : OpenClaim := { program := "ytodhcgidmdeifaa", sum := "c345451663c90a7061ff887aba667bc0c397bee54acd965cabeabfb41a6d3de9", func := "treadle/treadlelaw09.DuctOwn", spec := "ductOwn", apart := false }
def DuctOwnSaid : Prop := ductOwnRow.holds Try.pinned (OpenSpec.ofChange ductOwnSpec)

/-- ITS FALSE NEIGHBOUR: 'it returns false'. Refute it at one input. -/
def ductOwnWrong : ChangeSpec := { name := "ductOwn", fn := fun _ => fun
  | [d1, d2] => { results := [.lit (.bool false)], args := [d1, d2] }
  | _ => none }
def DuctOwnWrongFalsely : Prop := ductOwnRow.holds Try.pinned (OpenSpec.ofChange ductOwnWrong)

/-- 'treadlelaw09.DuctTurns': WHATEVER THE INPUT: true; the input reads as it did. -/
def ductTurnsSpec : ChangeSpec := { name := "ductTurns", fn := fun _ => fun
  | [d1, d2, d3] => { results := [.lit (.bool true)], args := [d1, d2, d3] }
  | _ => none }
def ductTurnsRow : OpenClaim := { program := "ytodhcgidmdeifaa", sum := "c345451663c90a7061ff887aba667bc0c397bee54acd965cabeabfb41a6d3de9", func := "treadle/treadlelaw09.DuctTurns", spec := "ductTurns", apart := false }
def DuctTurnsSaid : Prop := ductTurnsRow.holds Try.pinned (OpenSpec.ofChange ductTurnsSpec)

/-- ITS FALSE NEIGHBOUR: 'it returns false'. Refute it at one input. -/
def ductTurnsWrong : ChangeSpec := { name := "ductTurns", fn := fun _ => fun
  | [d1, d2, d3] => { results := [.lit (.bool false)], args := [d1, d2, d3] }
  | _ => none }
def DuctTurnsWrongFalsely : Prop := ductTurnsRow.holds Try.pinned (OpenSpec.ofChange ductTurnsWrong)

/-- 'treadlelaw09.DuctPairs': WHATEVER THE INPUT: true; the input reads as it did. -/
def ductPairsSpec : ChangeSpec := { name := "ductPairs", fn := fun _ => fun
  | [d] => { results := [.lit (.bool true)], args := [d] }
  | _ => none }
def ductPairsRow : OpenClaim := { program := "ytodhcgidmdeifaa", sum := "c345451663c90a7061ff887aba667bc0c397bee54acd965cabeabfb41a6d3de9", func := "treadle/treadlelaw09.DuctPairs", spec := "ductPairs", apart := false }
def DuctPairsSaid : Prop := ductPairsRow.holds Try.pinned (OpenSpec.ofChange ductPairsSpec)

/-- ITS FALSE NEIGHBOUR: 'it returns false'. Refute it at one input. -/
def ductPairsWrong : ChangeSpec := { name := "ductPairs", fn := fun _ => fun
  | [d] => { results := [.lit (.bool false)], args := [d] }
  | _ => none }
def DuctPairsWrongFalsely : Prop := ductPairsRow.holds Try.pinned (OpenSpec.ofChange ductPairsWrong)

/-- 'treadlelaw09.DuctCounts': WHATEVER THE INPUT: true; the input reads as it did. -/
def ductCountsSpec : ChangeSpec := { name := "ductCounts", fn := fun _ => fun
  | [d1, d2] => { results := [.lit (.bool true)], args := [d1, d2] }
  | _ => none }
def ductCountsRow : OpenClaim := { program := "ytodhcgidmdeifaa", sum := "c345451663c90a7061ff887aba667bc0c397bee54acd965cabeabfb41a6d3de9", func := "treadle/treadlelaw09.DuctCounts", spec := "ductCounts", apart := false }
def DuctCountsSaid : Prop := ductCountsRow.holds Try.pinned (OpenSpec.ofChange ductCountsSpec)

/-- ITS FALSE NEIGHBOUR: 'it returns false'. Refute it at one input. -/
def ductCountsWrong : ChangeSpec := { name := "ductCounts", fn := fun _ => fun
  | [d1, d2] => { results := [.lit (.bool false)], args := [d1, d2] }
  | _ => none }
def DuctCountsWrongFalsely : Prop := ductCountsRow.holds Try.pinned (OpenSpec.ofChange ductCountsWrong)

/-- 'treadlelaw09.DuctOrder': WHATEVER THE INPUT: true; the input reads as it did. -/
def ductOrderSpec : ChangeSpec := { name := "ductOrder", fn := fun _ => fun
  | [d1, d2] => { results := [.lit (.bool true)], args := [d1, d2] }
  | _ => none }
def ductOrderRow : OpenClaim := { program := "ytodhcgidmdeifaa", sum := "c345451663c90a7061ff887aba667bc0c397bee54acd965cabeabfb41a6d3de9", func := "treadle/treadlelaw09.DuctOrder", spec := "ductOrder", inPlace := ["internal/bytealg.MakeNoZero"], apart := false }
def DuctOrderSaid : Prop := ductOrderRow.holds Try.pinned (OpenSpec.ofChange ductOrderSpec)

/-- ITS FALSE NEIGHBOUR: 'it returns false'. Refute it at one input. -/
def ductOrderWrong : ChangeSpec := { name := "ductOrder", fn := fun _ => fun
  | [d1, d2] => { results := [.lit (.bool false)], args := [d1, d2] }
  | _ => none }
def DuctOrderWrongFalsely : Prop := ductOrderRow.holds Try.pinned (OpenSpec.ofChange ductOrderWrong)

/-- 'treadlelaw09.DuctPlays': WHATEVER THE INPUT: true; the input reads as it did. -/
def ductPlaysSpec : ChangeSpec := { name := "ductPlays", fn := fun _ => fun
  | [d1, d2] => { results := [.lit (.bool true)], args := [d1, d2] }
  | _ => none }
def ductPlaysRow : OpenClaim := { program := "ytodhcgidmdeifaa", sum := "c345451663c90a7061ff887aba667bc0c397bee54acd965cabeabfb41a6d3de9", func := "treadle/treadlelaw09.DuctPlays", spec := "ductPlays", apart := false }
def DuctPlaysSaid : Prop := ductPlaysRow.holds Try.pinned (OpenSpec.ofChange ductPlaysSpec)

/-- ITS FALSE NEIGHBOUR: 'it returns false'. Refute it at one input. -/
def ductPlaysWrong : ChangeSpec := { name := "ductPlays", fn := fun _ => fun
  | [d1, d2] => { results := [.lit (.bool false)], args := [d1, d2] }
  | _ => none }
def DuctPlaysWrongFalsely : Prop := ductPlaysRow.holds Try.pinned (OpenSpec.ofChange ductPlaysWrong)

/-- 'treadlelaw09.DuctNil': WHATEVER THE INPUT: true; the input reads as it did. -/
def ductNilSpec : ChangeSpec := { name := "ductNil", fn := fun _ => fun
  | [d] => { results := [.lit (.bool true)], args := [d] }
  | _ => none }
def ductNilRow : OpenClaim := { program := "ytodhcgidmdeifaa", sum := "c345451663c90a7061ff887aba667bc0c397bee54acd965cabeabfb41a6d3de9", func := "treadle/treadlelaw09.DuctNil", spec := "ductNil", apart := false }
def DuctNilSaid : Prop := ductNilRow.holds Try.pinned (OpenSpec.ofChange ductNilSpec)

/-- ITS FALSE NEIGHBOUR: 'it returns false'. Refute it at one input. -/
def ductNilWrong : ChangeSpec := { name := "ductNil", fn := fun _ => fun
  | [d] => { results := [.lit (.bool false)], args := [d] }
  | _ => none }
def DuctNilWrongFalsely : Prop := ductNilRow.holds Try.pinned (OpenSpec.ofChange ductNilWrong)

/- THE SECOND FORM. 'bulk': how many values and letters a reading holds, each counted each time it is reached (what is shared counts as often as it is met; a slice's spare places count too). A statement '..UptoSaid' is the law's where the arguments, and the package variables that the reading takes, are together of bulk at most 1048576: NARROWER than '..Said'. Prove '..Said' where nothing that the law and all that it calls make is longer than what came in: it says more and counts as full. Else prove '..UptoSaid'. A law counts once. -/
mutual
def uptoBulk {H : Type} : DataW H → Nat
  | .lit (.string bytes) => bytes.length + 1
  | .lit _ => 1
  | .nil => 1
  | .ptr d => uptoBulk d + 1
  | .slice elems spare => uptoBulkAll elems + uptoBulkAll spare + 1
  | .agg parts => uptoBulkAll parts + 1
  | .iface _ d => uptoBulk d + 1
  | .map entries => uptoBulkEntries entries + 1
  | .held _ => 1
def uptoBulkAll {H : Type} : List (DataW H) → Nat
  | [] => 0
  | d :: r => uptoBulk d + uptoBulkAll r
def uptoBulkEntries {H : Type} : List (Lit × DataW H) → Nat
  | [] => 0
  | x :: r => uptoBulkEntry x + uptoBulkEntries r
def uptoBulkEntry {H : Type} : Lit × DataW H → Nat
  | (.string bytes, d) => bytes.length + uptoBulk d + 1
  | (_, d) => uptoBulk d + 1
 end
def uptoSmall : (H : Type) → List (DataW H) → Bool := fun _ ds => decide (uptoBulkAll ds ≤ 1048576)
def OpenSpec.upto (s : _root_.Go.ChangeSpec) : _root_.Go.OpenSpec := { _root_.Go.OpenSpec.ofChange s with cond := some uptoSmall }

/-- 'treadlelaw09.DuctOwn', WHERE WHAT IT READS IS OF BULK AT MOST 1048576: true; the input reads as it did. -/
def ductOwnUptoRow : OpenClaim := { program := "ytodhcgidmdeifaa", sum := "c345451663c90a7061ff887aba667bc0c397bee54acd965cabeabfb41a6d3de9", func := "treadle/treadlelaw09.DuctOwn", spec := "ductOwn", apart := false, narrowed := true }
def DuctOwnUptoSaid : Prop := ductOwnUptoRow.holds Try.pinned (OpenSpec.upto ductOwnSpec)

/-- 'treadlelaw09.DuctTurns', WHERE WHAT IT READS IS OF BULK AT MOST 1048576: true; the input reads as it did. -/
def ductTurnsUptoRow : OpenClaim := { program := "ytodhcgidmdeifaa", sum := "c345451663c90a7061ff887aba667bc0c397bee54acd965cabeabfb41a6d3de9", func := "treadle/treadlelaw09.DuctTurns", spec := "ductTurns", apart := false, narrowed := true }
def DuctTurnsUptoSaid : Prop := ductTurnsUptoRow.holds Try.pinned (OpenSpec.upto ductTurnsSpec)

/-- 'treadlelaw09.DuctPairs', WHERE WHAT IT READS IS OF BULK AT MOST 1048576: true; the input reads as it did. -/
def ductPairsUptoRow : OpenClaim := { program := "ytodhcgidmdeifaa", sum := "c345451663c90a7061ff887aba667bc0c397bee54acd965cabeabfb41a6d3de9", func := "treadle/treadlelaw09.DuctPairs", spec := "ductPairs", apart := false, narrowed := true }
def DuctPairsUptoSaid : Prop := ductPairsUptoRow.holds Try.pinned (OpenSpec.upto ductPairsSpec)

/-- 'treadlelaw09.DuctCounts', WHERE WHAT IT READS IS OF BULK AT MOST 1048576: true; the input reads as it did. -/
def ductCountsUptoRow : OpenClaim := { program := "ytodhcgidmdeifaa", sum := "c345451663c90a7061ff887aba667bc0c397bee54acd965cabeabfb41a6d3de9", func := "treadle/treadlelaw09.DuctCounts", spec := "ductCounts", apart := false, narrowed := true }
def DuctCountsUptoSaid : Prop := ductCountsUptoRow.holds Try.pinned (OpenSpec.upto ductCountsSpec)

/-- 'treadlelaw09.DuctOrder', WHERE WHAT IT READS IS OF BULK AT MOST 1048576: true; the input reads as it did. -/
def ductOrderUptoRow : OpenClaim := { program := "ytodhcgidmdeifaa", sum := "c345451663c90a7061ff887aba667bc0c397bee54acd965cabeabfb41a6d3de9", func := "treadle/treadlelaw09.DuctOrder", spec := "ductOrder", inPlace := ["internal/bytealg.MakeNoZero"], apart := false, narrowed := true }
def DuctOrderUptoSaid : Prop := ductOrderUptoRow.holds Try.pinned (OpenSpec.upto ductOrderSpec)

/-- 'treadlelaw09.DuctPlays', WHERE WHAT IT READS IS OF BULK AT MOST 1048576: true; the input reads as it did. -/
def ductPlaysUptoRow : OpenClaim := { program := "ytodhcgidmdeifaa", sum := "c345451663c90a7061ff887aba667bc0c397bee54acd965cabeabfb41a6d3de9", func := "treadle/treadlelaw09.DuctPlays", spec := "ductPlays", apart := false, narrowed := true }
def DuctPlaysUptoSaid : Prop := ductPlaysUptoRow.holds Try.pinned (OpenSpec.upto ductPlaysSpec)

/-- 'treadlelaw09.DuctNil', WHERE WHAT IT READS IS OF BULK AT MOST 1048576: true; the input reads as it did. -/
def ductNilUptoRow : OpenClaim := { program := "ytodhcgidmdeifaa", sum := "c345451663c90a7061ff887aba667bc0c397bee54acd965cabeabfb41a6d3de9", func := "treadle/treadlelaw09.DuctNil", spec := "ductNil", apart := false, narrowed := true }
def DuctNilUptoSaid : Prop := ductNilUptoRow.holds Try.pinned (OpenSpec.upto ductNilSpec)

end Rows
end Go.Proofs.Ytodhcgidmdeifaa
