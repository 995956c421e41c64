/-
  No cell of these rows narrows 'for every input' (looked for: loops, veiled, ifaces, maps, wideKeys, modest, calm, conditions, laid).
  DERIVED. THE GIVEN ROWS OF THIS SEAT. 12 by the template 'for every input the law returns true; each argument reads behind the call as it read before'; 0 by the template 'total and deterministic' (their statements: YteoiebmbgbgpgaaTotals.lean).
  GIVEN WITH THE SEED: the statements are not yours to turn. If you find one false, say at which input.
  Laid BY PROGRAM, IN A SANDBOX (cutbox-rows.mjs): the forced cells as the released guide's own fill.sh prints them over the translation a3299e7d58d06fc5… (all of the seat's roots in one cut). By AI agents, Wed Nov 11 2026. No macro, syntax, notation, axiom, sorry.
-/
import Derived.Test.YteoiebmbgbgpgaaChecked
import GoSem.Claim
import GoSem.ClaimJoined
import GoSem.ClaimMapViews
import Derived.JoinedTies
import Derived.KernelRfl
namespace Go.Proofs.Yteoiebmbgbgpgaa
/- THE CELL 'sum', in the pinned program and in every row, IS THE sha256 OF THE DUMP (.gsa) THAT YteoiebmbgbgpgaaProg.lean LOADS. Nothing in Lean hashes anything: it is a label: what it is worth is what the hold of that sum in a sandbox is worth. -/
noncomputable def Try.pinned : Pinned := { name := "yteoiebmbgbgpgaa", sum := "a3299e7d58d06fc5b1dae14a13aaaaf74e759509aee2347b892b6dd3e0550d50", checked := Try.checked }
namespace Rows
def none {H : Type} : Left H := { results := [], args := [] }

/-- 'bellarminelaw11.LockMoves': WHATEVER THE INPUT: true; the input reads as it did. -/
def lockMovesSpec : ChangeSpec := { name := "lockMoves", fn := fun _ => fun
  | [d1, d2] => { results := [.lit (.bool true)], args := [d1, d2] }
  | _ => none }
def lockMovesRow : OpenClaim := { program := "yteoiebmbgbgpgaa", sum := "a3299e7d58d06fc5b1dae14a13aaaaf74e759509aee2347b892b6dd3e0550d50", func := "bellarmine/bellarminelaw11.LockMoves", spec := "lockMoves", inPlace := ["internal/abi.NoEscape"], unfollowed := true, recurses := true, apart := false }
def LockMovesSaid : Prop := lockMovesRow.holds Try.pinned (OpenSpec.ofChange lockMovesSpec)

/-- ITS FALSE NEIGHBOUR: 'it returns false'. Refute it at one input. -/
def lockMovesWrong : ChangeSpec := { name := "lockMoves", fn := fun _ => fun
  | [d1, d2] => { results := [.lit (.bool false)], args := [d1, d2] }
  | _ => none }
def LockMovesWrongFalsely : Prop := lockMovesRow.holds Try.pinned (OpenSpec.ofChange lockMovesWrong)

/-- 'bellarminelaw11.LockSorts': WHATEVER THE INPUT: true; the input reads as it did. -/
def lockSortsSpec : ChangeSpec := { name := "lockSorts", fn := fun _ => fun
  | [d1, d2, d3, d4] => { results := [.lit (.bool true)], args := [d1, d2, d3, d4] }
  | _ => none }
def lockSortsRow : OpenClaim := { program := "yteoiebmbgbgpgaa", sum := "a3299e7d58d06fc5b1dae14a13aaaaf74e759509aee2347b892b6dd3e0550d50", func := "bellarmine/bellarminelaw11.LockSorts", spec := "lockSorts", inPlace := ["internal/abi.NoEscape"], unfollowed := true, recurses := true, apart := false }
def LockSortsSaid : Prop := lockSortsRow.holds Try.pinned (OpenSpec.ofChange lockSortsSpec)

/-- ITS FALSE NEIGHBOUR: 'it returns false'. Refute it at one input. -/
def lockSortsWrong : ChangeSpec := { name := "lockSorts", fn := fun _ => fun
  | [d1, d2, d3, d4] => { results := [.lit (.bool false)], args := [d1, d2, d3, d4] }
  | _ => none }
def LockSortsWrongFalsely : Prop := lockSortsRow.holds Try.pinned (OpenSpec.ofChange lockSortsWrong)

/-- 'bellarminelaw11.LockCounts': WHATEVER THE INPUT: true; the input reads as it did. -/
def lockCountsSpec : ChangeSpec := { name := "lockCounts", fn := fun _ => fun
  | [d1, d2] => { results := [.lit (.bool true)], args := [d1, d2] }
  | _ => none }
def lockCountsRow : OpenClaim := { program := "yteoiebmbgbgpgaa", sum := "a3299e7d58d06fc5b1dae14a13aaaaf74e759509aee2347b892b6dd3e0550d50", func := "bellarmine/bellarminelaw11.LockCounts", spec := "lockCounts", inPlace := ["internal/abi.NoEscape"], unfollowed := true, recurses := true, apart := false }
def LockCountsSaid : Prop := lockCountsRow.holds Try.pinned (OpenSpec.ofChange lockCountsSpec)

/-- ITS FALSE NEIGHBOUR: 'it returns false'. Refute it at one input. -/
def lockCountsWrong : ChangeSpec := { name := "lockCounts", fn := fun _ => fun
  | [d1, d2] => { results := [.lit (.bool false)], args := [d1, d2] }
  | _ => none }
def LockCountsWrongFalsely : Prop := lockCountsRow.holds Try.pinned (OpenSpec.ofChange lockCountsWrong)

/-- 'bellarminelaw11.LockLeaves': WHATEVER THE INPUT: true; the input reads as it did. -/
def lockLeavesSpec : ChangeSpec := { name := "lockLeaves", fn := fun _ => fun
  | [d] => { results := [.lit (.bool true)], args := [d] }
  | _ => none }
def lockLeavesRow : OpenClaim := { program := "yteoiebmbgbgpgaa", sum := "a3299e7d58d06fc5b1dae14a13aaaaf74e759509aee2347b892b6dd3e0550d50", func := "bellarmine/bellarminelaw11.LockLeaves", spec := "lockLeaves", inPlace := ["internal/abi.NoEscape"], unfollowed := true, recurses := true, apart := false }
def LockLeavesSaid : Prop := lockLeavesRow.holds Try.pinned (OpenSpec.ofChange lockLeavesSpec)

/-- ITS FALSE NEIGHBOUR: 'it returns false'. Refute it at one input. -/
def lockLeavesWrong : ChangeSpec := { name := "lockLeaves", fn := fun _ => fun
  | [d] => { results := [.lit (.bool false)], args := [d] }
  | _ => none }
def LockLeavesWrongFalsely : Prop := lockLeavesRow.holds Try.pinned (OpenSpec.ofChange lockLeavesWrong)

/-- 'bellarminelaw11.LockKnown': WHATEVER THE INPUT: true; the input reads as it did. -/
def lockKnownSpec : ChangeSpec := { name := "lockKnown", fn := fun _ => fun
  | [] => { results := [.lit (.bool true)], args := [] }
  | _ => none }
def lockKnownRow : OpenClaim := { program := "yteoiebmbgbgpgaa", sum := "a3299e7d58d06fc5b1dae14a13aaaaf74e759509aee2347b892b6dd3e0550d50", func := "bellarmine/bellarminelaw11.LockKnown", spec := "lockKnown", inPlace := ["internal/abi.NoEscape"], unfollowed := true, recurses := true, apart := false }
def LockKnownSaid : Prop := lockKnownRow.holds Try.pinned (OpenSpec.ofChange lockKnownSpec)

/-- ITS FALSE NEIGHBOUR: 'it returns false'. Refute it at one input. -/
def lockKnownWrong : ChangeSpec := { name := "lockKnown", fn := fun _ => fun
  | [] => { results := [.lit (.bool false)], args := [] }
  | _ => none }
def LockKnownWrongFalsely : Prop := lockKnownRow.holds Try.pinned (OpenSpec.ofChange lockKnownWrong)

/-- 'bellarminelaw11.LockMoved': WHATEVER THE INPUT: true; the input reads as it did. -/
def lockMovedSpec : ChangeSpec := { name := "lockMoved", fn := fun _ => fun
  | [d1, d2, d3] => { results := [.lit (.bool true)], args := [d1, d2, d3] }
  | _ => none }
def lockMovedRow : OpenClaim := { program := "yteoiebmbgbgpgaa", sum := "a3299e7d58d06fc5b1dae14a13aaaaf74e759509aee2347b892b6dd3e0550d50", func := "bellarmine/bellarminelaw11.LockMoved", spec := "lockMoved", inPlace := ["internal/abi.NoEscape"], unfollowed := true, recurses := true, apart := false }
def LockMovedSaid : Prop := lockMovedRow.holds Try.pinned (OpenSpec.ofChange lockMovedSpec)

/-- ITS FALSE NEIGHBOUR: 'it returns false'. Refute it at one input. -/
def lockMovedWrong : ChangeSpec := { name := "lockMoved", fn := fun _ => fun
  | [d1, d2, d3] => { results := [.lit (.bool false)], args := [d1, d2, d3] }
  | _ => none }
def LockMovedWrongFalsely : Prop := lockMovedRow.holds Try.pinned (OpenSpec.ofChange lockMovedWrong)

/-- 'bellarminelaw11.LockFewer': WHATEVER THE INPUT: true; the input reads as it did. -/
def lockFewerSpec : ChangeSpec := { name := "lockFewer", fn := fun _ => fun
  | [d1, d2] => { results := [.lit (.bool true)], args := [d1, d2] }
  | _ => none }
def lockFewerRow : OpenClaim := { program := "yteoiebmbgbgpgaa", sum := "a3299e7d58d06fc5b1dae14a13aaaaf74e759509aee2347b892b6dd3e0550d50", func := "bellarmine/bellarminelaw11.LockFewer", spec := "lockFewer", inPlace := ["internal/abi.NoEscape"], unfollowed := true, recurses := true, apart := false }
def LockFewerSaid : Prop := lockFewerRow.holds Try.pinned (OpenSpec.ofChange lockFewerSpec)

/-- ITS FALSE NEIGHBOUR: 'it returns false'. Refute it at one input. -/
def lockFewerWrong : ChangeSpec := { name := "lockFewer", fn := fun _ => fun
  | [d1, d2] => { results := [.lit (.bool false)], args := [d1, d2] }
  | _ => none }
def LockFewerWrongFalsely : Prop := lockFewerRow.holds Try.pinned (OpenSpec.ofChange lockFewerWrong)

/-- 'bellarminelaw11.LockLeft': WHATEVER THE INPUT: true; the input reads as it did. -/
def lockLeftSpec : ChangeSpec := { name := "lockLeft", fn := fun _ => fun
  | [d] => { results := [.lit (.bool true)], args := [d] }
  | _ => none }
def lockLeftRow : OpenClaim := { program := "yteoiebmbgbgpgaa", sum := "a3299e7d58d06fc5b1dae14a13aaaaf74e759509aee2347b892b6dd3e0550d50", func := "bellarmine/bellarminelaw11.LockLeft", spec := "lockLeft", inPlace := ["internal/abi.NoEscape"], unfollowed := true, recurses := true, apart := false }
def LockLeftSaid : Prop := lockLeftRow.holds Try.pinned (OpenSpec.ofChange lockLeftSpec)

/-- ITS FALSE NEIGHBOUR: 'it returns false'. Refute it at one input. -/
def lockLeftWrong : ChangeSpec := { name := "lockLeft", fn := fun _ => fun
  | [d] => { results := [.lit (.bool false)], args := [d] }
  | _ => none }
def LockLeftWrongFalsely : Prop := lockLeftRow.holds Try.pinned (OpenSpec.ofChange lockLeftWrong)

/-- 'bellarminelaw11.LockCounted': WHATEVER THE INPUT: true; the input reads as it did. -/
def lockCountedSpec : ChangeSpec := { name := "lockCounted", fn := fun _ => fun
  | [d] => { results := [.lit (.bool true)], args := [d] }
  | _ => none }
def lockCountedRow : OpenClaim := { program := "yteoiebmbgbgpgaa", sum := "a3299e7d58d06fc5b1dae14a13aaaaf74e759509aee2347b892b6dd3e0550d50", func := "bellarmine/bellarminelaw11.LockCounted", spec := "lockCounted", inPlace := ["internal/abi.NoEscape"], unfollowed := true, recurses := true, apart := false }
def LockCountedSaid : Prop := lockCountedRow.holds Try.pinned (OpenSpec.ofChange lockCountedSpec)

/-- ITS FALSE NEIGHBOUR: 'it returns false'. Refute it at one input. -/
def lockCountedWrong : ChangeSpec := { name := "lockCounted", fn := fun _ => fun
  | [d] => { results := [.lit (.bool false)], args := [d] }
  | _ => none }
def LockCountedWrongFalsely : Prop := lockCountedRow.holds Try.pinned (OpenSpec.ofChange lockCountedWrong)

/-- 'bellarminelaw11.LockKnuth': WHATEVER THE INPUT: true; the input reads as it did. -/
def lockKnuthSpec : ChangeSpec := { name := "lockKnuth", fn := fun _ => fun
  | [d] => { results := [.lit (.bool true)], args := [d] }
  | _ => none }
def lockKnuthRow : OpenClaim := { program := "yteoiebmbgbgpgaa", sum := "a3299e7d58d06fc5b1dae14a13aaaaf74e759509aee2347b892b6dd3e0550d50", func := "bellarmine/bellarminelaw11.LockKnuth", spec := "lockKnuth", inPlace := ["internal/abi.NoEscape"], unfollowed := true, recurses := true, apart := false }
def LockKnuthSaid : Prop := lockKnuthRow.holds Try.pinned (OpenSpec.ofChange lockKnuthSpec)

/-- ITS FALSE NEIGHBOUR: 'it returns false'. Refute it at one input. -/
def lockKnuthWrong : ChangeSpec := { name := "lockKnuth", fn := fun _ => fun
  | [d] => { results := [.lit (.bool false)], args := [d] }
  | _ => none }
def LockKnuthWrongFalsely : Prop := lockKnuthRow.holds Try.pinned (OpenSpec.ofChange lockKnuthWrong)

/-- 'bellarminelaw11.LockPassed': WHATEVER THE INPUT: true; the input reads as it did. -/
def lockPassedSpec : ChangeSpec := { name := "lockPassed", fn := fun _ => fun
  | [d] => { results := [.lit (.bool true)], args := [d] }
  | _ => none }
def lockPassedRow : OpenClaim := { program := "yteoiebmbgbgpgaa", sum := "a3299e7d58d06fc5b1dae14a13aaaaf74e759509aee2347b892b6dd3e0550d50", func := "bellarmine/bellarminelaw11.LockPassed", spec := "lockPassed", inPlace := ["internal/abi.NoEscape"], unfollowed := true, recurses := true, apart := false }
def LockPassedSaid : Prop := lockPassedRow.holds Try.pinned (OpenSpec.ofChange lockPassedSpec)

/-- ITS FALSE NEIGHBOUR: 'it returns false'. Refute it at one input. -/
def lockPassedWrong : ChangeSpec := { name := "lockPassed", fn := fun _ => fun
  | [d] => { results := [.lit (.bool false)], args := [d] }
  | _ => none }
def LockPassedWrongFalsely : Prop := lockPassedRow.holds Try.pinned (OpenSpec.ofChange lockPassedWrong)

/-- 'bellarminelaw11.LockBasins': WHATEVER THE INPUT: true; the input reads as it did. -/
def lockBasinsSpec : ChangeSpec := { name := "lockBasins", fn := fun _ => fun
  | [d] => { results := [.lit (.bool true)], args := [d] }
  | _ => none }
def lockBasinsRow : OpenClaim := { program := "yteoiebmbgbgpgaa", sum := "a3299e7d58d06fc5b1dae14a13aaaaf74e759509aee2347b892b6dd3e0550d50", func := "bellarmine/bellarminelaw11.LockBasins", spec := "lockBasins", inPlace := ["internal/abi.NoEscape"], unfollowed := true, recurses := true, apart := false }
def LockBasinsSaid : Prop := lockBasinsRow.holds Try.pinned (OpenSpec.ofChange lockBasinsSpec)

/-- ITS FALSE NEIGHBOUR: 'it returns false'. Refute it at one input. -/
def lockBasinsWrong : ChangeSpec := { name := "lockBasins", fn := fun _ => fun
  | [d] => { results := [.lit (.bool false)], args := [d] }
  | _ => none }
def LockBasinsWrongFalsely : Prop := lockBasinsRow.holds Try.pinned (OpenSpec.ofChange lockBasinsWrong)

/- THE SECOND FORM. 'bulk': how many values and letters a reading holds, each counted each time it is reached (what is shared counts as often as it is met; a slice's spare places count too). A statement '..UptoSaid' is the law's where the arguments, and the package variables that the reading takes, are together of bulk at most 1048576: NARROWER than '..Said'. Prove '..Said' where nothing that the law and all that it calls make is longer than what came in: it says more and counts as full. Else prove '..UptoSaid'. A law counts once. -/
mutual
def uptoBulk {H : Type} : DataW H → Nat
  | .lit (.string bytes) => bytes.length + 1
  | .lit _ => 1
  | .nil => 1
  | .ptr d => uptoBulk d + 1
  | .slice elems spare => uptoBulkAll elems + uptoBulkAll spare + 1
  | .agg parts => uptoBulkAll parts + 1
  | .iface _ d => uptoBulk d + 1
  | .map entries => uptoBulkEntries entries + 1
  | .held _ => 1
def uptoBulkAll {H : Type} : List (DataW H) → Nat
  | [] => 0
  | d :: r => uptoBulk d + uptoBulkAll r
def uptoBulkEntries {H : Type} : List (Lit × DataW H) → Nat
  | [] => 0
  | x :: r => uptoBulkEntry x + uptoBulkEntries r
def uptoBulkEntry {H : Type} : Lit × DataW H → Nat
  | (.string bytes, d) => bytes.length + uptoBulk d + 1
  | (_, d) => uptoBulk d + 1
 end
def uptoSmall : (H : Type) → List (DataW H) → Bool := fun _ ds => decide (uptoBulkAll ds ≤ 1048576)
def OpenSpec.upto (s : _root_.Go.ChangeSpec) : _root_.Go.OpenSpec := { _root_.Go.OpenSpec.ofChange s with cond := some uptoSmall }

/-- 'bellarminelaw11.LockMoves', WHERE WHAT IT READS IS OF BULK AT MOST 1048576: true; the input reads as it did. -/
def lockMovesUptoRow : OpenClaim := { program := "yteoiebmbgbgpgaa", sum := "a3299e7d58d06fc5b1dae14a13aaaaf74e759509aee2347b892b6dd3e0550d50", func := "bellarmine/bellarminelaw11.LockMoves", spec := "lockMoves", inPlace := ["internal/abi.NoEscape"], unfollowed := true, recurses := true, apart := false, narrowed := true }
def LockMovesUptoSaid : Prop := lockMovesUptoRow.holds Try.pinned (OpenSpec.upto lockMovesSpec)

/-- 'bellarminelaw11.LockSorts', WHERE WHAT IT READS IS OF BULK AT MOST 1048576: true; the input reads as it did. -/
def lockSortsUptoRow : OpenClaim := { program := "yteoiebmbgbgpgaa", sum := "a3299e7d58d06fc5b1dae14a13aaaaf74e759509aee2347b892b6dd3e0550d50", func := "bellarmine/bellarminelaw11.LockSorts", spec := "lockSorts", inPlace := ["internal/abi.NoEscape"], unfollowed := true, recurses := true, apart := false, narrowed := true }
def LockSortsUptoSaid : Prop := lockSortsUptoRow.holds Try.pinned (OpenSpec.upto lockSortsSpec)

/-- 'bellarminelaw11.LockCounts', WHERE WHAT IT READS IS OF BULK AT MOST 1048576: true; the input reads as it did. -/
def lockCountsUptoRow : OpenClaim := { program := "yteoiebmbgbgpgaa", sum := "a3299e7d58d06fc5b1dae14a13aaaaf74e759509aee2347b892b6dd3e0550d50", func := "bellarmine/bellarminelaw11.LockCounts", spec := "lockCounts", inPlace := ["internal/abi.NoEscape"], unfollowed := true, recurses := true, apart := false, narrowed := true }
def LockCountsUptoSaid : Prop := lockCountsUptoRow.holds Try.pinned (OpenSpec.upto lockCountsSpec)

/-- 'bellarminelaw11.LockLeaves', WHERE WHAT IT READS IS OF BULK AT MOST 1048576: true; the input reads as it did. -/
def lockLeavesUptoRow : OpenClaim := { program := "yteoiebmbgbgpgaa", sum := "a3299e7d58d06fc5b1dae14a13aaaaf74e759509aee2347b892b6dd3e0550d50", func := "bellarmine/bellarminelaw11.LockLeaves", spec := "lockLeaves", inPlace := ["internal/abi.NoEscape"], unfollowed := true, recurses := true, apart := false, narrowed := true }
def LockLeavesUptoSaid : Prop := lockLeavesUptoRow.holds Try.pinned (OpenSpec.upto lockLeavesSpec)

/-- 'bellarminelaw11.LockKnown', WHERE WHAT IT READS IS OF BULK AT MOST 1048576: true; the input reads as it did. -/
def lockKnownUptoRow : OpenClaim := { program := "yteoiebmbgbgpgaa", sum := "a3299e7d58d06fc5b1dae14a13aaaaf74e759509aee2347b892b6dd3e0550d50", func := "bellarmine/bellarminelaw11.LockKnown", spec := "lockKnown", inPlace := ["internal/abi.NoEscape"], unfollowed := true, recurses := true, apart := false, narrowed := true }
def LockKnownUptoSaid : Prop := lockKnownUptoRow.holds Try.pinned (OpenSpec.upto lockKnownSpec)

/-- 'bellarminelaw11.LockMoved', WHERE WHAT IT READS IS OF BULK AT MOST 1048576: true; the input reads as it did. -/
def lockMovedUptoRow : OpenClaim := { program := "yteoiebmbgbgpgaa", sum := "a3299e7d58d06fc5b1dae14a13aaaaf74e759509aee2347b892b6dd3e0550d50", func := "bellarmine/bellarminelaw11.LockMoved", spec := "lockMoved", inPlace := ["internal/abi.NoEscape"], unfollowed := true, recurses := true, apart := false, narrowed := true }
def LockMovedUptoSaid : Prop := lockMovedUptoRow.holds Try.pinned (OpenSpec.upto lockMovedSpec)

/-- 'bellarminelaw11.LockFewer', WHERE WHAT IT READS IS OF BULK AT MOST 1048576: true; the input reads as it did. -/
def lockFewerUptoRow : OpenClaim := { program := "yteoiebmbgbgpgaa", sum := "a3299e7d58d06fc5b1dae14a13aaaaf74e759509aee2347b892b6dd3e0550d50", func := "bellarmine/bellarminelaw11.LockFewer", spec := "lockFewer", inPlace := ["internal/abi.NoEscape"], unfollowed := true, recurses := true, apart := false, narrowed := true }
def LockFewerUptoSaid : Prop := lockFewerUptoRow.holds Try.pinned (OpenSpec.upto lockFewerSpec)

/-- 'bellarminelaw11.LockLeft', WHERE WHAT IT READS IS OF BULK AT MOST 1048576: true; the input reads as it did. -/
def lockLeftUptoRow : OpenClaim := { program := "yteoiebmbgbgpgaa", sum := "a3299e7d58d06fc5b1dae14a13aaaaf74e759509aee2347b892b6dd3e0550d50", func := "bellarmine/bellarminelaw11.LockLeft", spec := "lockLeft", inPlace := ["internal/abi.NoEscape"], unfollowed := true, recurses := true, apart := false, narrowed := true }
def LockLeftUptoSaid : Prop := lockLeftUptoRow.holds Try.pinned (OpenSpec.upto lockLeftSpec)

/-- 'bellarminelaw11.LockCounted', WHERE WHAT IT READS IS OF BULK AT MOST 1048576: true; the input reads as it did. -/
def lockCountedUptoRow : OpenClaim := { program := "yteoiebmbgbgpgaa", sum := "a3299e7d58d06fc5b1dae14a13aaaaf74e759509aee2347b892b6dd3e0550d50", func := "bellarmine/bellarminelaw11.LockCounted", spec := "lockCounted", inPlace := ["internal/abi.NoEscape"], unfollowed := true, recurses := true, apart := false, narrowed := true }
def LockCountedUptoSaid : Prop := lockCountedUptoRow.holds Try.pinned (OpenSpec.upto lockCountedSpec)

/-- 'bellarminelaw11.LockKnuth', WHERE WHAT IT READS IS OF BULK AT MOST 1048576: true; the input reads as it did. -/
def lockKnuthUptoRow : OpenClaim := { program := "yteoiebmbgbgpgaa", sum := "a3299e7d58d06fc5b1dae14a13aaaaf74e759509aee2347b892b6dd3e0550d50", func := "bellarmine/bellarminelaw11.LockKnuth", spec := "lockKnuth", inPlace := ["internal/abi.NoEscape"], unfollowed := true, recurses := true, apart := false, narrowed := true }
def LockKnuthUptoSaid : Prop := lockKnuthUptoRow.holds Try.pinned (OpenSpec.upto lockKnuthSpec)

/-- 'bellarminelaw11.LockPassed', WHERE WHAT IT READS IS OF BULK AT MOST 1048576: true; the input reads as it did. -/
def lockPassedUptoRow : OpenClaim := { program := "yteoiebmbgbgpgaa", sum := "a3299e7d58d06fc5b1dae14a13aaaaf74e759509aee2347b892b6dd3e0550d50", func := "bellarmine/bellarminelaw11.LockPassed", spec := "lockPassed", inPlace := ["internal/abi.NoEscape"], unfollowed := true, recurses := true, apart := false, narrowed := true }
def LockPassedUptoSaid : Prop := lockPassedUptoRow.holds Try.pinned (OpenSpec.upto lockPassedSpec)

/-- 'bellarminelaw11.LockBasins', WHERE WHAT IT READS IS OF BULK AT MOST 1048576: true; the input reads as it did. -/
def lockBasinsUptoRow : OpenClaim := { program := "yteoiebmbgbgpgaa", sum := "a3299e7d58d06fc5b1dae14a13aaaaf74e759509aee2347b892b6dd3e0550d50", func := "bellarmine/bellarminelaw11.LockBasins", spec := "lockBasins", inPlace := ["internal/abi.NoEscape"], unfollowed := true, recurses := true, apart := false, narrowed := true }
def LockBasinsUptoSaid : Prop := lockBasinsUptoRow.holds Try.pinned (OpenSpec.upto lockBasinsSpec)

end Rows
end Go.Proofs.Yteoiebmbgbgpgaa
