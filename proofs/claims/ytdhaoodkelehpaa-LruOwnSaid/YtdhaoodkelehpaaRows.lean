/-
  No cell of these rows narrows 'for every input' (looked for: loops, veiled, ifaces, maps, wideKeys, modest, calm, conditions, laid).
  DERIVED. THE GIVEN ROWS OF THIS SEAT. 8 by the template 'for every input the law returns true; each argument reads behind the call as it read before'; 0 by the template 'total and deterministic' (their statements: YtdhaoodkelehpaaTotals.lean).
  GIVEN WITH THE SEED: the statements are not yours to turn. If you find one false, say at which input.
  Laid BY PROGRAM, IN A SANDBOX (cutbox-rows.mjs): the forced cells as the released guide's own fill.sh prints them over the translation 1dd1fe9d044129a5… (all of the seat's roots in one cut). By AI agents, Wed Nov 11 2026. No macro, syntax, notation, axiom, sorry.
-/
import Derived.Test.YtdhaoodkelehpaaChecked
import GoSem.Claim
import GoSem.ClaimJoined
import GoSem.ClaimMapViews
import Derived.JoinedTies
import Derived.KernelRfl
namespace Go.Proofs.Ytdhaoodkelehpaa
/- THE CELL 'sum', in the pinned program and in every row, IS THE sha256 OF THE DUMP (.gsa) THAT YtdhaoodkelehpaaProg.lean LOADS. Nothing in Lean hashes anything: it is a label: what it is worth is what the hold of that sum in a sandbox is worth. -/
noncomputable def Try.pinned : Pinned := { name := "ytdhaoodkelehpaa", sum := "1dd1fe9d044129a5f5a50197a5f92401723e1668f73954d84a1f37a13e661c77", checked := Try.checked }
namespace Rows
def none {H : Type} : Left H := { results := [], args := [] }

/-- 'treadlelaw11.LruRecent': WHATEVER THE INPUT: true; the input reads as it did. -/
def lruRecentSpec : ChangeSpec := { name := "lruRecent", fn := fun _ => fun
  | [d1, d2, d3] => { results := [.lit (.bool true)], args := [d1, d2, d3] }
  | _ => none }
def lruRecentRow : OpenClaim := { program := "ytdhaoodkelehpaa", sum := "1dd1fe9d044129a5f5a50197a5f92401723e1668f73954d84a1f37a13e661c77", func := "treadle/treadlelaw11.LruRecent", spec := "lruRecent", apart := false }
def LruRecentSaid : Prop := lruRecentRow.holds Try.pinned (OpenSpec.ofChange lruRecentSpec)

/-- ITS FALSE NEIGHBOUR: 'it returns false'. Refute it at one input. -/
def lruRecentWrong : ChangeSpec := { name := "lruRecent", fn := fun _ => fun
  | [d1, d2, d3] => { results := [.lit (.bool false)], args := [d1, d2, d3] }
  | _ => none }
def LruRecentWrongFalsely : Prop := lruRecentRow.holds Try.pinned (OpenSpec.ofChange lruRecentWrong)

/-- 'treadlelaw11.LruMore': WHATEVER THE INPUT: true; the input reads as it did. -/
def lruMoreSpec : ChangeSpec := { name := "lruMore", fn := fun _ => fun
  | [d1, d2, d3] => { results := [.lit (.bool true)], args := [d1, d2, d3] }
  | _ => none }
def lruMoreRow : OpenClaim := { program := "ytdhaoodkelehpaa", sum := "1dd1fe9d044129a5f5a50197a5f92401723e1668f73954d84a1f37a13e661c77", func := "treadle/treadlelaw11.LruMore", spec := "lruMore", apart := false }
def LruMoreSaid : Prop := lruMoreRow.holds Try.pinned (OpenSpec.ofChange lruMoreSpec)

/-- ITS FALSE NEIGHBOUR: 'it returns false'. Refute it at one input. -/
def lruMoreWrong : ChangeSpec := { name := "lruMore", fn := fun _ => fun
  | [d1, d2, d3] => { results := [.lit (.bool false)], args := [d1, d2, d3] }
  | _ => none }
def LruMoreWrongFalsely : Prop := lruMoreRow.holds Try.pinned (OpenSpec.ofChange lruMoreWrong)

/-- 'treadlelaw11.LruCounts': WHATEVER THE INPUT: true; the input reads as it did. -/
def lruCountsSpec : ChangeSpec := { name := "lruCounts", fn := fun _ => fun
  | [d1, d2] => { results := [.lit (.bool true)], args := [d1, d2] }
  | _ => none }
def lruCountsRow : OpenClaim := { program := "ytdhaoodkelehpaa", sum := "1dd1fe9d044129a5f5a50197a5f92401723e1668f73954d84a1f37a13e661c77", func := "treadle/treadlelaw11.LruCounts", spec := "lruCounts", apart := false }
def LruCountsSaid : Prop := lruCountsRow.holds Try.pinned (OpenSpec.ofChange lruCountsSpec)

/-- ITS FALSE NEIGHBOUR: 'it returns false'. Refute it at one input. -/
def lruCountsWrong : ChangeSpec := { name := "lruCounts", fn := fun _ => fun
  | [d1, d2] => { results := [.lit (.bool false)], args := [d1, d2] }
  | _ => none }
def LruCountsWrongFalsely : Prop := lruCountsRow.holds Try.pinned (OpenSpec.ofChange lruCountsWrong)

/-- 'treadlelaw11.LruWalks': WHATEVER THE INPUT: true; the input reads as it did. -/
def lruWalksSpec : ChangeSpec := { name := "lruWalks", fn := fun _ => fun
  | [d] => { results := [.lit (.bool true)], args := [d] }
  | _ => none }
def lruWalksRow : OpenClaim := { program := "ytdhaoodkelehpaa", sum := "1dd1fe9d044129a5f5a50197a5f92401723e1668f73954d84a1f37a13e661c77", func := "treadle/treadlelaw11.LruWalks", spec := "lruWalks", unfollowed := true, recurses := true, apart := false }
def LruWalksSaid : Prop := lruWalksRow.holds Try.pinned (OpenSpec.ofChange lruWalksSpec)

/-- ITS FALSE NEIGHBOUR: 'it returns false'. Refute it at one input. -/
def lruWalksWrong : ChangeSpec := { name := "lruWalks", fn := fun _ => fun
  | [d] => { results := [.lit (.bool false)], args := [d] }
  | _ => none }
def LruWalksWrongFalsely : Prop := lruWalksRow.holds Try.pinned (OpenSpec.ofChange lruWalksWrong)

/-- 'treadlelaw11.LruOwn': WHATEVER THE INPUT: true; the input reads as it did. -/
def lruOwnSpec : ChangeSpec := { name := "lruOwn", fn := fun _ => fun
  | [d] => { results := [.lit (.bool true)], args := [d] }
  | _ => none }
def lruOwnRow : OpenClaim := { program := "ytdhaoodkelehpaa", sum := "1dd1fe9d044129a5f5a50197a5f92401723e1668f73954d84a1f37a13e661c77", func := "treadle/treadlelaw11.LruOwn", spec := "lruOwn", unfollowed := true, recurses := true, apart := false }
def LruOwnSaid : Prop := lruOwnRow.holds Try.pinned (OpenSpec.ofChange lruOwnSpec)

/-- ITS FALSE NEIGHBOUR: 'it returns false'. Refute it at one input. -/
def lruOwnWrong : ChangeSpec := { name := "lruOwn", fn := fun _ => fun
  | [d] => { results := [.lit (.bool false)], args := [d] }
  | _ => none }
def LruOwnWrongFalsely : Prop := lruOwnRow.holds Try.pinned (OpenSpec.ofChange lruOwnWrong)

/-- 'treadlelaw11.LruPlays': WHATEVER THE INPUT: true; the input reads as it did. -/
def lruPlaysSpec : ChangeSpec := { name := "lruPlays", fn := fun _ => fun
  | [d1, d2] => { results := [.lit (.bool true)], args := [d1, d2] }
  | _ => none }
def lruPlaysRow : OpenClaim := { program := "ytdhaoodkelehpaa", sum := "1dd1fe9d044129a5f5a50197a5f92401723e1668f73954d84a1f37a13e661c77", func := "treadle/treadlelaw11.LruPlays", spec := "lruPlays", unfollowed := true, recurses := true, apart := false }
def LruPlaysSaid : Prop := lruPlaysRow.holds Try.pinned (OpenSpec.ofChange lruPlaysSpec)

/-- ITS FALSE NEIGHBOUR: 'it returns false'. Refute it at one input. -/
def lruPlaysWrong : ChangeSpec := { name := "lruPlays", fn := fun _ => fun
  | [d1, d2] => { results := [.lit (.bool false)], args := [d1, d2] }
  | _ => none }
def LruPlaysWrongFalsely : Prop := lruPlaysRow.holds Try.pinned (OpenSpec.ofChange lruPlaysWrong)

/-- 'treadlelaw11.LruCopies': WHATEVER THE INPUT: true; the input reads as it did. -/
def lruCopiesSpec : ChangeSpec := { name := "lruCopies", fn := fun _ => fun
  | [d] => { results := [.lit (.bool true)], args := [d] }
  | _ => none }
def lruCopiesRow : OpenClaim := { program := "ytdhaoodkelehpaa", sum := "1dd1fe9d044129a5f5a50197a5f92401723e1668f73954d84a1f37a13e661c77", func := "treadle/treadlelaw11.LruCopies", spec := "lruCopies", unfollowed := true, recurses := true, apart := false }
def LruCopiesSaid : Prop := lruCopiesRow.holds Try.pinned (OpenSpec.ofChange lruCopiesSpec)

/-- ITS FALSE NEIGHBOUR: 'it returns false'. Refute it at one input. -/
def lruCopiesWrong : ChangeSpec := { name := "lruCopies", fn := fun _ => fun
  | [d] => { results := [.lit (.bool false)], args := [d] }
  | _ => none }
def LruCopiesWrongFalsely : Prop := lruCopiesRow.holds Try.pinned (OpenSpec.ofChange lruCopiesWrong)

/-- 'treadlelaw11.LruNil': WHATEVER THE INPUT: true; the input reads as it did. -/
def lruNilSpec : ChangeSpec := { name := "lruNil", fn := fun _ => fun
  | [d] => { results := [.lit (.bool true)], args := [d] }
  | _ => none }
def lruNilRow : OpenClaim := { program := "ytdhaoodkelehpaa", sum := "1dd1fe9d044129a5f5a50197a5f92401723e1668f73954d84a1f37a13e661c77", func := "treadle/treadlelaw11.LruNil", spec := "lruNil", unfollowed := true, recurses := true, apart := false }
def LruNilSaid : Prop := lruNilRow.holds Try.pinned (OpenSpec.ofChange lruNilSpec)

/-- ITS FALSE NEIGHBOUR: 'it returns false'. Refute it at one input. -/
def lruNilWrong : ChangeSpec := { name := "lruNil", fn := fun _ => fun
  | [d] => { results := [.lit (.bool false)], args := [d] }
  | _ => none }
def LruNilWrongFalsely : Prop := lruNilRow.holds Try.pinned (OpenSpec.ofChange lruNilWrong)

/- THE SECOND FORM. 'bulk': how many values and letters a reading holds, each counted each time it is reached (what is shared counts as often as it is met; a slice's spare places count too). A statement '..UptoSaid' is the law's where the arguments, and the package variables that the reading takes, are together of bulk at most 1048576: NARROWER than '..Said'. Prove '..Said' where nothing that the law and all that it calls make is longer than what came in: it says more and counts as full. Else prove '..UptoSaid'. A law counts once. -/
mutual
def uptoBulk {H : Type} : DataW H → Nat
  | .lit (.string bytes) => bytes.length + 1
  | .lit _ => 1
  | .nil => 1
  | .ptr d => uptoBulk d + 1
  | .slice elems spare => uptoBulkAll elems + uptoBulkAll spare + 1
  | .agg parts => uptoBulkAll parts + 1
  | .iface _ d => uptoBulk d + 1
  | .map entries => uptoBulkEntries entries + 1
  | .held _ => 1
def uptoBulkAll {H : Type} : List (DataW H) → Nat
  | [] => 0
  | d :: r => uptoBulk d + uptoBulkAll r
def uptoBulkEntries {H : Type} : List (Lit × DataW H) → Nat
  | [] => 0
  | x :: r => uptoBulkEntry x + uptoBulkEntries r
def uptoBulkEntry {H : Type} : Lit × DataW H → Nat
  | (.string bytes, d) => bytes.length + uptoBulk d + 1
  | (_, d) => uptoBulk d + 1
 end
def uptoSmall : (H : Type) → List (DataW H) → Bool := fun _ ds => decide (uptoBulkAll ds ≤ 1048576)
def OpenSpec.upto (s : _root_.Go.ChangeSpec) : _root_.Go.OpenSpec := { _root_.Go.OpenSpec.ofChange s with cond := some uptoSmall }

/-- 'treadlelaw11.LruRecent', WHERE WHAT IT READS IS OF BULK AT MOST 1048576: true; the input reads as it did. -/
def lruRecentUptoRow : OpenClaim := { program := "ytdhaoodkelehpaa", sum := "1dd1fe9d044129a5f5a50197a5f92401723e1668f73954d84a1f37a13e661c77", func := "treadle/treadlelaw11.LruRecent", spec := "lruRecent", apart := false, narrowed := true }
def LruRecentUptoSaid : Prop := lruRecentUptoRow.holds Try.pinned (OpenSpec.upto lruRecentSpec)

/-- 'treadlelaw11.LruMore', WHERE WHAT IT READS IS OF BULK AT MOST 1048576: true; the input reads as it did. -/
def lruMoreUptoRow : OpenClaim := { program := "ytdhaoodkelehpaa", sum := "1dd1fe9d044129a5f5a50197a5f92401723e1668f73954d84a1f37a13e661c77", func := "treadle/treadlelaw11.LruMore", spec := "lruMore", apart := false, narrowed := true }
def LruMoreUptoSaid : Prop := lruMoreUptoRow.holds Try.pinned (OpenSpec.upto lruMoreSpec)

/-- 'treadlelaw11.LruCounts', WHERE WHAT IT READS IS OF BULK AT MOST 1048576: true; the input reads as it did. -/
def lruCountsUptoRow : OpenClaim := { program := "ytdhaoodkelehpaa", sum := "1dd1fe9d044129a5f5a50197a5f92401723e1668f73954d84a1f37a13e661c77", func := "treadle/treadlelaw11.LruCounts", spec := "lruCounts", apart := false, narrowed := true }
def LruCountsUptoSaid : Prop := lruCountsUptoRow.holds Try.pinned (OpenSpec.upto lruCountsSpec)

/-- 'treadlelaw11.LruWalks', WHERE WHAT IT READS IS OF BULK AT MOST 1048576: true; the input reads as it did. -/
def lruWalksUptoRow : OpenClaim := { program := "ytdhaoodkelehpaa", sum := "1dd1fe9d044129a5f5a50197a5f92401723e1668f73954d84a1f37a13e661c77", func := "treadle/treadlelaw11.LruWalks", spec := "lruWalks", unfollowed := true, recurses := true, apart := false, narrowed := true }
def LruWalksUptoSaid : Prop := lruWalksUptoRow.holds Try.pinned (OpenSpec.upto lruWalksSpec)

/-- 'treadlelaw11.LruOwn', WHERE WHAT IT READS IS OF BULK AT MOST 1048576: true; the input reads as it did. -/
def lruOwnUptoRow : OpenClaim := { program := "ytdhaoodkelehpaa", sum := "1dd1fe9d044129a5f5a50197a5f92401723e1668f73954d84a1f37a13e661c77", func := "treadle/treadlelaw11.LruOwn", spec := "lruOwn", unfollowed := true, recurses := true, apart := false, narrowed := true }
def LruOwnUptoSaid : Prop := lruOwnUptoRow.holds Try.pinned (OpenSpec.upto lruOwnSpec)

/-- 'treadlelaw11.LruPlays', WHERE WHAT IT READS IS OF BULK AT MOST 1048576: true; the input reads as it did. -/
def lruPlaysUptoRow : OpenClaim := { program := "ytdhaoodkelehpaa", sum := "1dd1fe9d044129a5f5a50197a5f92401723e1668f73954d84a1f37a13e661c77", func := "treadle/treadlelaw11.LruPlays", spec := "lruPlays", unfollowed := true, recurses := true, apart := false, narrowed := true }
def LruPlaysUptoSaid : Prop := lruPlaysUptoRow.holds Try.pinned (OpenSpec.upto lruPlaysSpec)

/-- 'treadlelaw11.LruCopies', WHERE WHAT IT READS IS OF BULK AT MOST 1048576: true; the input reads as it did. -/
def lruCopiesUptoRow : OpenClaim := { program := "ytdhaoodkelehpaa", sum := "1dd1fe9d044129a5f5a50197a5f92401723e1668f73954d84a1f37a13e661c77", func := "treadle/treadlelaw11.LruCopies", spec := "lruCopies", unfollowed := true, recurses := true, apart := false, narrowed := true }
def LruCopiesUptoSaid : Prop := lruCopiesUptoRow.holds Try.pinned (OpenSpec.upto lruCopiesSpec)

/-- 'treadlelaw11.LruNil', WHERE WHAT IT READS IS OF BULK AT MOST 1048576: true; the input reads as it did. -/
def lruNilUptoRow : OpenClaim := { program := "ytdhaoodkelehpaa", sum := "1dd1fe9d044129a5f5a50197a5f92401723e1668f73954d84a1f37a13e661c77", func := "treadle/treadlelaw11.LruNil", spec := "lruNil", unfollowed := true, recurses := true, apart := false, narrowed := true }
def LruNilUptoSaid : Prop := lruNilUptoRow.holds Try.pinned (OpenSpec.upto lruNilSpec)

end Rows
end Go.Proofs.Ytdhaoodkelehpaa
