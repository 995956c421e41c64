/-
  No cell of these rows narrows 'for every input' (looked for: loops, veiled, ifaces, maps, wideKeys, modest, calm, conditions, laid).
  DERIVED. THE GIVEN ROWS OF THIS SEAT. 13 by the template 'for every input the law returns true; each argument reads behind the call as it read before'; 0 by the template 'total and deterministic' (their statements: YtmakepdccccmaaaTotals.lean).
  GIVEN WITH THE SEED: the statements are not yours to turn. If you find one false, say at which input.
  Laid BY PROGRAM, IN A SANDBOX (cutbox-rows.mjs): the forced cells as the released guide's own fill.sh prints them over the translation f38ca1c98691a219… (all of the seat's roots in one cut). By AI agents, Wed Nov 11 2026. No macro, syntax, notation, axiom, sorry.
-/
import Derived.Test.YtmakepdccccmaaaChecked
import GoSem.Claim
import GoSem.ClaimJoined
import GoSem.ClaimMapViews
import Derived.JoinedTies
import Derived.KernelRfl
namespace Go.Proofs.Ytmakepdccccmaaa
/- THE CELL 'sum', in the pinned program and in every row, IS THE sha256 OF THE DUMP (.gsa) THAT YtmakepdccccmaaaProg.lean LOADS. Nothing in Lean hashes anything: it is a label: what it is worth is what the hold of that sum in a sandbox is worth. -/
noncomputable def Try.pinned : Pinned := { name := "ytmakepdccccmaaa", sum := "f38ca1c98691a2195842bc0b2703459b06b8997c4fb85d3697d53980d0b12881", checked := Try.checked }
namespace Rows
def none {H : Type} : Left H := { results := [], args := [] }

/-- 'bellarminelaw08.WalkCan': WHATEVER THE INPUT: true; the input reads as it did. -/
def walkCanSpec : ChangeSpec := { name := "walkCan", fn := fun _ => fun
  | [d] => { results := [.lit (.bool true)], args := [d] }
  | _ => none }
def walkCanRow : OpenClaim := { program := "ytmakepdccccmaaa", sum := "f38ca1c98691a2195842bc0b2703459b06b8997c4fb85d3697d53980d0b12881", func := "bellarmine/bellarminelaw08.WalkCan", spec := "walkCan", unfollowed := true, recurses := true, plainKeys := false, apart := false }
def WalkCanSaid : Prop := walkCanRow.holds Try.pinned (OpenSpec.ofChange walkCanSpec)

/-- ITS FALSE NEIGHBOUR: 'it returns false'. Refute it at one input. -/
def walkCanWrong : ChangeSpec := { name := "walkCan", fn := fun _ => fun
  | [d] => { results := [.lit (.bool false)], args := [d] }
  | _ => none }
def WalkCanWrongFalsely : Prop := walkCanRow.holds Try.pinned (OpenSpec.ofChange walkCanWrong)

/-- 'bellarminelaw08.WalkLeft': WHATEVER THE INPUT: true; the input reads as it did. -/
def walkLeftSpec : ChangeSpec := { name := "walkLeft", fn := fun _ => fun
  | [d1, d2] => { results := [.lit (.bool true)], args := [d1, d2] }
  | _ => none }
def walkLeftRow : OpenClaim := { program := "ytmakepdccccmaaa", sum := "f38ca1c98691a2195842bc0b2703459b06b8997c4fb85d3697d53980d0b12881", func := "bellarmine/bellarminelaw08.WalkLeft", spec := "walkLeft", unfollowed := true, recurses := true, plainKeys := false, apart := false }
def WalkLeftSaid : Prop := walkLeftRow.holds Try.pinned (OpenSpec.ofChange walkLeftSpec)

/-- ITS FALSE NEIGHBOUR: 'it returns false'. Refute it at one input. -/
def walkLeftWrong : ChangeSpec := { name := "walkLeft", fn := fun _ => fun
  | [d1, d2] => { results := [.lit (.bool false)], args := [d1, d2] }
  | _ => none }
def WalkLeftWrongFalsely : Prop := walkLeftRow.holds Try.pinned (OpenSpec.ofChange walkLeftWrong)

/-- 'bellarminelaw08.WalkWalks': WHATEVER THE INPUT: true; the input reads as it did. -/
def walkWalksSpec : ChangeSpec := { name := "walkWalks", fn := fun _ => fun
  | [d1, d2] => { results := [.lit (.bool true)], args := [d1, d2] }
  | _ => none }
def walkWalksRow : OpenClaim := { program := "ytmakepdccccmaaa", sum := "f38ca1c98691a2195842bc0b2703459b06b8997c4fb85d3697d53980d0b12881", func := "bellarmine/bellarminelaw08.WalkWalks", spec := "walkWalks", unfollowed := true, recurses := true, plainKeys := false, apart := false }
def WalkWalksSaid : Prop := walkWalksRow.holds Try.pinned (OpenSpec.ofChange walkWalksSpec)

/-- ITS FALSE NEIGHBOUR: 'it returns false'. Refute it at one input. -/
def walkWalksWrong : ChangeSpec := { name := "walkWalks", fn := fun _ => fun
  | [d1, d2] => { results := [.lit (.bool false)], args := [d1, d2] }
  | _ => none }
def WalkWalksWrongFalsely : Prop := walkWalksRow.holds Try.pinned (OpenSpec.ofChange walkWalksWrong)

/-- 'bellarminelaw08.WalkGroups': WHATEVER THE INPUT: true; the input reads as it did. -/
def walkGroupsSpec : ChangeSpec := { name := "walkGroups", fn := fun _ => fun
  | [d] => { results := [.lit (.bool true)], args := [d] }
  | _ => none }
def walkGroupsRow : OpenClaim := { program := "ytmakepdccccmaaa", sum := "f38ca1c98691a2195842bc0b2703459b06b8997c4fb85d3697d53980d0b12881", func := "bellarmine/bellarminelaw08.WalkGroups", spec := "walkGroups", unfollowed := true, recurses := true, plainKeys := false, apart := false }
def WalkGroupsSaid : Prop := walkGroupsRow.holds Try.pinned (OpenSpec.ofChange walkGroupsSpec)

/-- ITS FALSE NEIGHBOUR: 'it returns false'. Refute it at one input. -/
def walkGroupsWrong : ChangeSpec := { name := "walkGroups", fn := fun _ => fun
  | [d] => { results := [.lit (.bool false)], args := [d] }
  | _ => none }
def WalkGroupsWrongFalsely : Prop := walkGroupsRow.holds Try.pinned (OpenSpec.ofChange walkGroupsWrong)

/-- 'bellarminelaw08.WalkEven': WHATEVER THE INPUT: true; the input reads as it did. -/
def walkEvenSpec : ChangeSpec := { name := "walkEven", fn := fun _ => fun
  | [d] => { results := [.lit (.bool true)], args := [d] }
  | _ => none }
def walkEvenRow : OpenClaim := { program := "ytmakepdccccmaaa", sum := "f38ca1c98691a2195842bc0b2703459b06b8997c4fb85d3697d53980d0b12881", func := "bellarmine/bellarminelaw08.WalkEven", spec := "walkEven", unfollowed := true, recurses := true, plainKeys := false, apart := false }
def WalkEvenSaid : Prop := walkEvenRow.holds Try.pinned (OpenSpec.ofChange walkEvenSpec)

/-- ITS FALSE NEIGHBOUR: 'it returns false'. Refute it at one input. -/
def walkEvenWrong : ChangeSpec := { name := "walkEven", fn := fun _ => fun
  | [d] => { results := [.lit (.bool false)], args := [d] }
  | _ => none }
def WalkEvenWrongFalsely : Prop := walkEvenRow.holds Try.pinned (OpenSpec.ofChange walkEvenWrong)

/-- 'bellarminelaw08.WalkKnown': WHATEVER THE INPUT: true; the input reads as it did. -/
def walkKnownSpec : ChangeSpec := { name := "walkKnown", fn := fun _ => fun
  | [] => { results := [.lit (.bool true)], args := [] }
  | _ => none }
def walkKnownRow : OpenClaim := { program := "ytmakepdccccmaaa", sum := "f38ca1c98691a2195842bc0b2703459b06b8997c4fb85d3697d53980d0b12881", func := "bellarmine/bellarminelaw08.WalkKnown", spec := "walkKnown", unfollowed := true, recurses := true, plainKeys := false, apart := false }
def WalkKnownSaid : Prop := walkKnownRow.holds Try.pinned (OpenSpec.ofChange walkKnownSpec)

/-- ITS FALSE NEIGHBOUR: 'it returns false'. Refute it at one input. -/
def walkKnownWrong : ChangeSpec := { name := "walkKnown", fn := fun _ => fun
  | [] => { results := [.lit (.bool false)], args := [] }
  | _ => none }
def WalkKnownWrongFalsely : Prop := walkKnownRow.holds Try.pinned (OpenSpec.ofChange walkKnownWrong)

/-- 'bellarminelaw08.WalkWalked': WHATEVER THE INPUT: true; the input reads as it did. -/
def walkWalkedSpec : ChangeSpec := { name := "walkWalked", fn := fun _ => fun
  | [d1, d2, d3] => { results := [.lit (.bool true)], args := [d1, d2, d3] }
  | _ => none }
def walkWalkedRow : OpenClaim := { program := "ytmakepdccccmaaa", sum := "f38ca1c98691a2195842bc0b2703459b06b8997c4fb85d3697d53980d0b12881", func := "bellarmine/bellarminelaw08.WalkWalked", spec := "walkWalked", unfollowed := true, recurses := true, plainKeys := false, apart := false }
def WalkWalkedSaid : Prop := walkWalkedRow.holds Try.pinned (OpenSpec.ofChange walkWalkedSpec)

/-- ITS FALSE NEIGHBOUR: 'it returns false'. Refute it at one input. -/
def walkWalkedWrong : ChangeSpec := { name := "walkWalked", fn := fun _ => fun
  | [d1, d2, d3] => { results := [.lit (.bool false)], args := [d1, d2, d3] }
  | _ => none }
def WalkWalkedWrongFalsely : Prop := walkWalkedRow.holds Try.pinned (OpenSpec.ofChange walkWalkedWrong)

/-- 'bellarminelaw08.WalkForever': WHATEVER THE INPUT: true; the input reads as it did. -/
def walkForeverSpec : ChangeSpec := { name := "walkForever", fn := fun _ => fun
  | [d] => { results := [.lit (.bool true)], args := [d] }
  | _ => none }
def walkForeverRow : OpenClaim := { program := "ytmakepdccccmaaa", sum := "f38ca1c98691a2195842bc0b2703459b06b8997c4fb85d3697d53980d0b12881", func := "bellarmine/bellarminelaw08.WalkForever", spec := "walkForever", unfollowed := true, recurses := true, plainKeys := false, apart := false }
def WalkForeverSaid : Prop := walkForeverRow.holds Try.pinned (OpenSpec.ofChange walkForeverSpec)

/-- ITS FALSE NEIGHBOUR: 'it returns false'. Refute it at one input. -/
def walkForeverWrong : ChangeSpec := { name := "walkForever", fn := fun _ => fun
  | [d] => { results := [.lit (.bool false)], args := [d] }
  | _ => none }
def WalkForeverWrongFalsely : Prop := walkForeverRow.holds Try.pinned (OpenSpec.ofChange walkForeverWrong)

/-- 'bellarminelaw08.WalkGrouped': WHATEVER THE INPUT: true; the input reads as it did. -/
def walkGroupedSpec : ChangeSpec := { name := "walkGrouped", fn := fun _ => fun
  | [d] => { results := [.lit (.bool true)], args := [d] }
  | _ => none }
def walkGroupedRow : OpenClaim := { program := "ytmakepdccccmaaa", sum := "f38ca1c98691a2195842bc0b2703459b06b8997c4fb85d3697d53980d0b12881", func := "bellarmine/bellarminelaw08.WalkGrouped", spec := "walkGrouped", unfollowed := true, recurses := true, plainKeys := false, apart := false }
def WalkGroupedSaid : Prop := walkGroupedRow.holds Try.pinned (OpenSpec.ofChange walkGroupedSpec)

/-- ITS FALSE NEIGHBOUR: 'it returns false'. Refute it at one input. -/
def walkGroupedWrong : ChangeSpec := { name := "walkGrouped", fn := fun _ => fun
  | [d] => { results := [.lit (.bool false)], args := [d] }
  | _ => none }
def WalkGroupedWrongFalsely : Prop := walkGroupedRow.holds Try.pinned (OpenSpec.ofChange walkGroupedWrong)

/-- 'bellarminelaw08.WalkNamed': WHATEVER THE INPUT: true; the input reads as it did. -/
def walkNamedSpec : ChangeSpec := { name := "walkNamed", fn := fun _ => fun
  | [d1, d2, d3] => { results := [.lit (.bool true)], args := [d1, d2, d3] }
  | _ => none }
def walkNamedRow : OpenClaim := { program := "ytmakepdccccmaaa", sum := "f38ca1c98691a2195842bc0b2703459b06b8997c4fb85d3697d53980d0b12881", func := "bellarmine/bellarminelaw08.WalkNamed", spec := "walkNamed", unfollowed := true, recurses := true, plainKeys := false, apart := false }
def WalkNamedSaid : Prop := walkNamedRow.holds Try.pinned (OpenSpec.ofChange walkNamedSpec)

/-- ITS FALSE NEIGHBOUR: 'it returns false'. Refute it at one input. -/
def walkNamedWrong : ChangeSpec := { name := "walkNamed", fn := fun _ => fun
  | [d1, d2, d3] => { results := [.lit (.bool false)], args := [d1, d2, d3] }
  | _ => none }
def WalkNamedWrongFalsely : Prop := walkNamedRow.holds Try.pinned (OpenSpec.ofChange walkNamedWrong)

/-- 'bellarminelaw08.WalkFirst': WHATEVER THE INPUT: true; the input reads as it did. -/
def walkFirstSpec : ChangeSpec := { name := "walkFirst", fn := fun _ => fun
  | [d1, d2] => { results := [.lit (.bool true)], args := [d1, d2] }
  | _ => none }
def walkFirstRow : OpenClaim := { program := "ytmakepdccccmaaa", sum := "f38ca1c98691a2195842bc0b2703459b06b8997c4fb85d3697d53980d0b12881", func := "bellarmine/bellarminelaw08.WalkFirst", spec := "walkFirst", unfollowed := true, recurses := true, plainKeys := false, apart := false }
def WalkFirstSaid : Prop := walkFirstRow.holds Try.pinned (OpenSpec.ofChange walkFirstSpec)

/-- ITS FALSE NEIGHBOUR: 'it returns false'. Refute it at one input. -/
def walkFirstWrong : ChangeSpec := { name := "walkFirst", fn := fun _ => fun
  | [d1, d2] => { results := [.lit (.bool false)], args := [d1, d2] }
  | _ => none }
def WalkFirstWrongFalsely : Prop := walkFirstRow.holds Try.pinned (OpenSpec.ofChange walkFirstWrong)

/-- 'bellarminelaw08.WalkSixths': WHATEVER THE INPUT: true; the input reads as it did. -/
def walkSixthsSpec : ChangeSpec := { name := "walkSixths", fn := fun _ => fun
  | [d] => { results := [.lit (.bool true)], args := [d] }
  | _ => none }
def walkSixthsRow : OpenClaim := { program := "ytmakepdccccmaaa", sum := "f38ca1c98691a2195842bc0b2703459b06b8997c4fb85d3697d53980d0b12881", func := "bellarmine/bellarminelaw08.WalkSixths", spec := "walkSixths", unfollowed := true, recurses := true, plainKeys := false, apart := false }
def WalkSixthsSaid : Prop := walkSixthsRow.holds Try.pinned (OpenSpec.ofChange walkSixthsSpec)

/-- ITS FALSE NEIGHBOUR: 'it returns false'. Refute it at one input. -/
def walkSixthsWrong : ChangeSpec := { name := "walkSixths", fn := fun _ => fun
  | [d] => { results := [.lit (.bool false)], args := [d] }
  | _ => none }
def WalkSixthsWrongFalsely : Prop := walkSixthsRow.holds Try.pinned (OpenSpec.ofChange walkSixthsWrong)

/-- 'bellarminelaw08.WalkPlans': WHATEVER THE INPUT: true; the input reads as it did. -/
def walkPlansSpec : ChangeSpec := { name := "walkPlans", fn := fun _ => fun
  | [d1, d2, d3, d4, d5] => { results := [.lit (.bool true)], args := [d1, d2, d3, d4, d5] }
  | _ => none }
def walkPlansRow : OpenClaim := { program := "ytmakepdccccmaaa", sum := "f38ca1c98691a2195842bc0b2703459b06b8997c4fb85d3697d53980d0b12881", func := "bellarmine/bellarminelaw08.WalkPlans", spec := "walkPlans", unfollowed := true, recurses := true, plainKeys := false, apart := false }
def WalkPlansSaid : Prop := walkPlansRow.holds Try.pinned (OpenSpec.ofChange walkPlansSpec)

/-- ITS FALSE NEIGHBOUR: 'it returns false'. Refute it at one input. -/
def walkPlansWrong : ChangeSpec := { name := "walkPlans", fn := fun _ => fun
  | [d1, d2, d3, d4, d5] => { results := [.lit (.bool false)], args := [d1, d2, d3, d4, d5] }
  | _ => none }
def WalkPlansWrongFalsely : Prop := walkPlansRow.holds Try.pinned (OpenSpec.ofChange walkPlansWrong)

/- THE SECOND FORM. 'bulk': how many values and letters a reading holds, each counted each time it is reached (what is shared counts as often as it is met; a slice's spare places count too). A statement '..UptoSaid' is the law's where the arguments, and the package variables that the reading takes, are together of bulk at most 1048576: NARROWER than '..Said'. Prove '..Said' where nothing that the law and all that it calls make is longer than what came in: it says more and counts as full. Else prove '..UptoSaid'. A law counts once. -/
mutual
def uptoBulk {H : Type} : DataW H → Nat
  | .lit (.string bytes) => bytes.length + 1
  | .lit _ => 1
  | .nil => 1
  | .ptr d => uptoBulk d + 1
  | .slice elems spare => uptoBulkAll elems + uptoBulkAll spare + 1
  | .agg parts => uptoBulkAll parts + 1
  | .iface _ d => uptoBulk d + 1
  | .map entries => uptoBulkEntries entries + 1
  | .held _ => 1
def uptoBulkAll {H : Type} : List (DataW H) → Nat
  | [] => 0
  | d :: r => uptoBulk d + uptoBulkAll r
def uptoBulkEntries {H : Type} : List (Lit × DataW H) → Nat
  | [] => 0
  | x :: r => uptoBulkEntry x + uptoBulkEntries r
def uptoBulkEntry {H : Type} : Lit × DataW H → Nat
  | (.string bytes, d) => bytes.length + uptoBulk d + 1
  | (_, d) => uptoBulk d + 1
 end
def uptoSmall : (H : Type) → List (DataW H) → Bool := fun _ ds => decide (uptoBulkAll ds ≤ 1048576)
def OpenSpec.upto (s : _root_.Go.ChangeSpec) : _root_.Go.OpenSpec := { _root_.Go.OpenSpec.ofChange s with cond := some uptoSmall }

/-- 'bellarminelaw08.WalkCan', WHERE WHAT IT READS IS OF BULK AT MOST 1048576: true; the input reads as it did. -/
def walkCanUptoRow : OpenClaim := { program := "ytmakepdccccmaaa", sum := "f38ca1c98691a2195842bc0b2703459b06b8997c4fb85d3697d53980d0b12881", func := "bellarmine/bellarminelaw08.WalkCan", spec := "walkCan", unfollowed := true, recurses := true, plainKeys := false, apart := false, narrowed := true }
def WalkCanUptoSaid : Prop := walkCanUptoRow.holds Try.pinned (OpenSpec.upto walkCanSpec)

/-- 'bellarminelaw08.WalkLeft', WHERE WHAT IT READS IS OF BULK AT MOST 1048576: true; the input reads as it did. -/
def walkLeftUptoRow : OpenClaim := { program := "ytmakepdccccmaaa", sum := "f38ca1c98691a2195842bc0b2703459b06b8997c4fb85d3697d53980d0b12881", func := "bellarmine/bellarminelaw08.WalkLeft", spec := "walkLeft", unfollowed := true, recurses := true, plainKeys := false, apart := false, narrowed := true }
def WalkLeftUptoSaid : Prop := walkLeftUptoRow.holds Try.pinned (OpenSpec.upto walkLeftSpec)

/-- 'bellarminelaw08.WalkWalks', WHERE WHAT IT READS IS OF BULK AT MOST 1048576: true; the input reads as it did. -/
def walkWalksUptoRow : OpenClaim := { program := "ytmakepdccccmaaa", sum := "f38ca1c98691a2195842bc0b2703459b06b8997c4fb85d3697d53980d0b12881", func := "bellarmine/bellarminelaw08.WalkWalks", spec := "walkWalks", unfollowed := true, recurses := true, plainKeys := false, apart := false, narrowed := true }
def WalkWalksUptoSaid : Prop := walkWalksUptoRow.holds Try.pinned (OpenSpec.upto walkWalksSpec)

/-- 'bellarminelaw08.WalkGroups', WHERE WHAT IT READS IS OF BULK AT MOST 1048576: true; the input reads as it did. -/
def walkGroupsUptoRow : OpenClaim := { program := "ytmakepdccccmaaa", sum := "f38ca1c98691a2195842bc0b2703459b06b8997c4fb85d3697d53980d0b12881", func := "bellarmine/bellarminelaw08.WalkGroups", spec := "walkGroups", unfollowed := true, recurses := true, plainKeys := false, apart := false, narrowed := true }
def WalkGroupsUptoSaid : Prop := walkGroupsUptoRow.holds Try.pinned (OpenSpec.upto walkGroupsSpec)

/-- 'bellarminelaw08.WalkEven', WHERE WHAT IT READS IS OF BULK AT MOST 1048576: true; the input reads as it did. -/
def walkEvenUptoRow : OpenClaim := { program := "ytmakepdccccmaaa", sum := "f38ca1c98691a2195842bc0b2703459b06b8997c4fb85d3697d53980d0b12881", func := "bellarmine/bellarminelaw08.WalkEven", spec := "walkEven", unfollowed := true, recurses := true, plainKeys := false, apart := false, narrowed := true }
def WalkEvenUptoSaid : Prop := walkEvenUptoRow.holds Try.pinned (OpenSpec.upto walkEvenSpec)

/-- 'bellarminelaw08.WalkKnown', WHERE WHAT IT READS IS OF BULK AT MOST 1048576: true; the input reads as it did. -/
def walkKnownUptoRow : OpenClaim := { program := "ytmakepdccccmaaa", sum := "f38ca1c98691a2195842bc0b2703459b06b8997c4fb85d3697d53980d0b12881", func := "bellarmine/bellarminelaw08.WalkKnown", spec := "walkKnown", unfollowed := true, recurses := true, plainKeys := false, apart := false, narrowed := true }
def WalkKnownUptoSaid : Prop := walkKnownUptoRow.holds Try.pinned (OpenSpec.upto walkKnownSpec)

/-- 'bellarminelaw08.WalkWalked', WHERE WHAT IT READS IS OF BULK AT MOST 1048576: true; the input reads as it did. -/
def walkWalkedUptoRow : OpenClaim := { program := "ytmakepdccccmaaa", sum := "f38ca1c98691a2195842bc0b2703459b06b8997c4fb85d3697d53980d0b12881", func := "bellarmine/bellarminelaw08.WalkWalked", spec := "walkWalked", unfollowed := true, recurses := true, plainKeys := false, apart := false, narrowed := true }
def WalkWalkedUptoSaid : Prop := walkWalkedUptoRow.holds Try.pinned (OpenSpec.upto walkWalkedSpec)

/-- 'bellarminelaw08.WalkForever', WHERE WHAT IT READS IS OF BULK AT MOST 1048576: true; the input reads as it did. -/
def walkForeverUptoRow : OpenClaim := { program := "ytmakepdccccmaaa", sum := "f38ca1c98691a2195842bc0b2703459b06b8997c4fb85d3697d53980d0b12881", func := "bellarmine/bellarminelaw08.WalkForever", spec := "walkForever", unfollowed := true, recurses := true, plainKeys := false, apart := false, narrowed := true }
def WalkForeverUptoSaid : Prop := walkForeverUptoRow.holds Try.pinned (OpenSpec.upto walkForeverSpec)

/-- 'bellarminelaw08.WalkGrouped', WHERE WHAT IT READS IS OF BULK AT MOST 1048576: true; the input reads as it did. -/
def walkGroupedUptoRow : OpenClaim := { program := "ytmakepdccccmaaa", sum := "f38ca1c98691a2195842bc0b2703459b06b8997c4fb85d3697d53980d0b12881", func := "bellarmine/bellarminelaw08.WalkGrouped", spec := "walkGrouped", unfollowed := true, recurses := true, plainKeys := false, apart := false, narrowed := true }
def WalkGroupedUptoSaid : Prop := walkGroupedUptoRow.holds Try.pinned (OpenSpec.upto walkGroupedSpec)

/-- 'bellarminelaw08.WalkNamed', WHERE WHAT IT READS IS OF BULK AT MOST 1048576: true; the input reads as it did. -/
def walkNamedUptoRow : OpenClaim := { program := "ytmakepdccccmaaa", sum := "f38ca1c98691a2195842bc0b2703459b06b8997c4fb85d3697d53980d0b12881", func := "bellarmine/bellarminelaw08.WalkNamed", spec := "walkNamed", unfollowed := true, recurses := true, plainKeys := false, apart := false, narrowed := true }
def WalkNamedUptoSaid : Prop := walkNamedUptoRow.holds Try.pinned (OpenSpec.upto walkNamedSpec)

/-- 'bellarminelaw08.WalkFirst', WHERE WHAT IT READS IS OF BULK AT MOST 1048576: true; the input reads as it did. -/
def walkFirstUptoRow : OpenClaim := { program := "ytmakepdccccmaaa", sum := "f38ca1c98691a2195842bc0b2703459b06b8997c4fb85d3697d53980d0b12881", func := "bellarmine/bellarminelaw08.WalkFirst", spec := "walkFirst", unfollowed := true, recurses := true, plainKeys := false, apart := false, narrowed := true }
def WalkFirstUptoSaid : Prop := walkFirstUptoRow.holds Try.pinned (OpenSpec.upto walkFirstSpec)

/-- 'bellarminelaw08.WalkSixths', WHERE WHAT IT READS IS OF BULK AT MOST 1048576: true; the input reads as it did. -/
def walkSixthsUptoRow : OpenClaim := { program := "ytmakepdccccmaaa", sum := "f38ca1c98691a2195842bc0b2703459b06b8997c4fb85d3697d53980d0b12881", func := "bellarmine/bellarminelaw08.WalkSixths", spec := "walkSixths", unfollowed := true, recurses := true, plainKeys := false, apart := false, narrowed := true }
def WalkSixthsUptoSaid : Prop := walkSixthsUptoRow.holds Try.pinned (OpenSpec.upto walkSixthsSpec)

/-- 'bellarminelaw08.WalkPlans', WHERE WHAT IT READS IS OF BULK AT MOST 1048576: true; the input reads as it did. -/
def walkPlansUptoRow : OpenClaim := { program := "ytmakepdccccmaaa", sum := "f38ca1c98691a2195842bc0b2703459b06b8997c4fb85d3697d53980d0b12881", func := "bellarmine/bellarminelaw08.WalkPlans", spec := "walkPlans", unfollowed := true, recurses := true, plainKeys := false, apart := false, narrowed := true }
def WalkPlansUptoSaid : Prop := walkPlansUptoRow.holds Try.pinned (OpenSpec.upto walkPlansSpec)

end Rows
end Go.Proofs.Ytmakepdccccmaaa
