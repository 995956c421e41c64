/-
  NARROWER THAN 'FOR EVERY INPUT', by the rows' own cells (each row's printed sentence says how): ChartDuals: laid · ChartColours: laid · ChartRings: laid · ChartKnown: laid · ChartFaces: laid · ChartColoured: laid · ChartOdd: laid · ChartNamed: laid · ChartDual: laid · ChartWithout: laid · ChartBack: laid · ChartEuler: laid.
  DERIVED. THE GIVEN ROWS OF THIS SEAT. 12 by the template 'for every input the law returns true; each argument reads behind the call as it read before'; 0 by the template 'total and deterministic' (their statements: YtfiebjbhiflfpaaDoorTotals.lean).
  GIVEN WITH THE SEED: the statements are not yours to turn. If you find one false, say at which input.
  Laid BY PROGRAM, IN A SANDBOX (cutbox-rows.mjs): the forced cells as the released guide's own fill.sh prints them over the translation 5a0e0504b26d85ad… (all of the seat's roots in one cut). By AI agents, Wed Nov 11 2026. No macro, syntax, notation, axiom, sorry.
-/
import Derived.Test.YtfiebjbhiflfpaaDoorChecked
import GoSem.Claim
import GoSem.ClaimJoined
import GoSem.ClaimMapViews
import Derived.JoinedTies
import Derived.KernelRfl
namespace Go.Proofs.YtfiebjbhiflfpaaDoor
/- THE CELL 'sum', in the pinned program and in every row, IS THE sha256 OF THE DUMP (.gsa) THAT YtfiebjbhiflfpaaDoorProg.lean LOADS. Nothing in Lean hashes anything: it is a label: what it is worth is what the hold of that sum in a sandbox is worth. -/
noncomputable def Tryd.pinned : Pinned := { name := "ytfiebjbhiflfpaadoor", sum := "5a0e0504b26d85adfffcb458f8ff37d111f8c890d51dd96c45aad9b110818cca", checked := Tryd.checked }
namespace Rows
def none {H : Type} : Left H := { results := [], args := [] }

/- WHAT THE LISTED PACKAGE-LEVEL VARIABLES READ AS WHEN THE CALL BEGINS. Each datum BY PROGRAM (the guide's laid-datum.mjs) off the statement by which the dump's own 'gosem.cut.vars' lays the variable. In a bare row this is a premise. The card (YtfiebjbhiflfpaaDoorCards.lean) ties it to the program's text. -/
def laid_bellarmine_chart_others {H : Type} : DataW H := .agg [.lit (.int .i64 1), .lit (.int .i64 0), .lit (.int .i64 3), .lit (.int .i64 2), .lit (.int .i64 5), .lit (.int .i64 4), .lit (.int .i64 7), .lit (.int .i64 6), .lit (.int .i64 9), .lit (.int .i64 8), .lit (.int .i64 11), .lit (.int .i64 10), .lit (.int .i64 13), .lit (.int .i64 12), .lit (.int .i64 15), .lit (.int .i64 14)]

/-- 'bellarminelaw09.ChartDuals': WHATEVER THE INPUT: true; the input reads as it did. -/
def chartDualsSpec : ChangeSpec := { name := "chartDuals", fn := fun _ => fun
  | [d1, d2] => { results := [.lit (.bool true)], args := [d1, d2] }
  | _ => none }
def chartDualsRow : OpenClaim := { program := "ytfiebjbhiflfpaadoor", sum := "5a0e0504b26d85adfffcb458f8ff37d111f8c890d51dd96c45aad9b110818cca", func := "bellarmine/bellarminelaw09.ChartDuals", spec := "chartDuals", unfollowed := true, recurses := true, named := ["bellarmine/chart.others"], apart := false, laid := [("bellarmine/chart.others", laid_bellarmine_chart_others)] }
def ChartDualsSaid : Prop := chartDualsRow.holds Tryd.pinned (OpenSpec.ofChange chartDualsSpec)

/-- ITS FALSE NEIGHBOUR: 'it returns false'. Refute it at one input. -/
def chartDualsWrong : ChangeSpec := { name := "chartDuals", fn := fun _ => fun
  | [d1, d2] => { results := [.lit (.bool false)], args := [d1, d2] }
  | _ => none }
def ChartDualsWrongFalsely : Prop := chartDualsRow.holds Tryd.pinned (OpenSpec.ofChange chartDualsWrong)

/-- 'bellarminelaw09.ChartColours': WHATEVER THE INPUT: true; the input reads as it did. -/
def chartColoursSpec : ChangeSpec := { name := "chartColours", fn := fun _ => fun
  | [d1, d2] => { results := [.lit (.bool true)], args := [d1, d2] }
  | _ => none }
def chartColoursRow : OpenClaim := { program := "ytfiebjbhiflfpaadoor", sum := "5a0e0504b26d85adfffcb458f8ff37d111f8c890d51dd96c45aad9b110818cca", func := "bellarmine/bellarminelaw09.ChartColours", spec := "chartColours", unfollowed := true, recurses := true, named := ["bellarmine/chart.others"], apart := false, laid := [("bellarmine/chart.others", laid_bellarmine_chart_others)] }
def ChartColoursSaid : Prop := chartColoursRow.holds Tryd.pinned (OpenSpec.ofChange chartColoursSpec)

/-- ITS FALSE NEIGHBOUR: 'it returns false'. Refute it at one input. -/
def chartColoursWrong : ChangeSpec := { name := "chartColours", fn := fun _ => fun
  | [d1, d2] => { results := [.lit (.bool false)], args := [d1, d2] }
  | _ => none }
def ChartColoursWrongFalsely : Prop := chartColoursRow.holds Tryd.pinned (OpenSpec.ofChange chartColoursWrong)

/-- 'bellarminelaw09.ChartRings': WHATEVER THE INPUT: true; the input reads as it did. -/
def chartRingsSpec : ChangeSpec := { name := "chartRings", fn := fun _ => fun
  | [d] => { results := [.lit (.bool true)], args := [d] }
  | _ => none }
def chartRingsRow : OpenClaim := { program := "ytfiebjbhiflfpaadoor", sum := "5a0e0504b26d85adfffcb458f8ff37d111f8c890d51dd96c45aad9b110818cca", func := "bellarmine/bellarminelaw09.ChartRings", spec := "chartRings", unfollowed := true, recurses := true, named := ["bellarmine/chart.others"], apart := false, laid := [("bellarmine/chart.others", laid_bellarmine_chart_others)] }
def ChartRingsSaid : Prop := chartRingsRow.holds Tryd.pinned (OpenSpec.ofChange chartRingsSpec)

/-- ITS FALSE NEIGHBOUR: 'it returns false'. Refute it at one input. -/
def chartRingsWrong : ChangeSpec := { name := "chartRings", fn := fun _ => fun
  | [d] => { results := [.lit (.bool false)], args := [d] }
  | _ => none }
def ChartRingsWrongFalsely : Prop := chartRingsRow.holds Tryd.pinned (OpenSpec.ofChange chartRingsWrong)

/-- 'bellarminelaw09.ChartKnown': WHATEVER THE INPUT: true; the input reads as it did. -/
def chartKnownSpec : ChangeSpec := { name := "chartKnown", fn := fun _ => fun
  | [] => { results := [.lit (.bool true)], args := [] }
  | _ => none }
def chartKnownRow : OpenClaim := { program := "ytfiebjbhiflfpaadoor", sum := "5a0e0504b26d85adfffcb458f8ff37d111f8c890d51dd96c45aad9b110818cca", func := "bellarmine/bellarminelaw09.ChartKnown", spec := "chartKnown", unfollowed := true, recurses := true, named := ["bellarmine/chart.others"], apart := false, laid := [("bellarmine/chart.others", laid_bellarmine_chart_others)] }
def ChartKnownSaid : Prop := chartKnownRow.holds Tryd.pinned (OpenSpec.ofChange chartKnownSpec)

/-- ITS FALSE NEIGHBOUR: 'it returns false'. Refute it at one input. -/
def chartKnownWrong : ChangeSpec := { name := "chartKnown", fn := fun _ => fun
  | [] => { results := [.lit (.bool false)], args := [] }
  | _ => none }
def ChartKnownWrongFalsely : Prop := chartKnownRow.holds Tryd.pinned (OpenSpec.ofChange chartKnownWrong)

/-- 'bellarminelaw09.ChartFaces': WHATEVER THE INPUT: true; the input reads as it did. -/
def chartFacesSpec : ChangeSpec := { name := "chartFaces", fn := fun _ => fun
  | [d] => { results := [.lit (.bool true)], args := [d] }
  | _ => none }
def chartFacesRow : OpenClaim := { program := "ytfiebjbhiflfpaadoor", sum := "5a0e0504b26d85adfffcb458f8ff37d111f8c890d51dd96c45aad9b110818cca", func := "bellarmine/bellarminelaw09.ChartFaces", spec := "chartFaces", unfollowed := true, recurses := true, named := ["bellarmine/chart.others"], apart := false, laid := [("bellarmine/chart.others", laid_bellarmine_chart_others)] }
def ChartFacesSaid : Prop := chartFacesRow.holds Tryd.pinned (OpenSpec.ofChange chartFacesSpec)

/-- ITS FALSE NEIGHBOUR: 'it returns false'. Refute it at one input. -/
def chartFacesWrong : ChangeSpec := { name := "chartFaces", fn := fun _ => fun
  | [d] => { results := [.lit (.bool false)], args := [d] }
  | _ => none }
def ChartFacesWrongFalsely : Prop := chartFacesRow.holds Tryd.pinned (OpenSpec.ofChange chartFacesWrong)

/-- 'bellarminelaw09.ChartColoured': WHATEVER THE INPUT: true; the input reads as it did. -/
def chartColouredSpec : ChangeSpec := { name := "chartColoured", fn := fun _ => fun
  | [d] => { results := [.lit (.bool true)], args := [d] }
  | _ => none }
def chartColouredRow : OpenClaim := { program := "ytfiebjbhiflfpaadoor", sum := "5a0e0504b26d85adfffcb458f8ff37d111f8c890d51dd96c45aad9b110818cca", func := "bellarmine/bellarminelaw09.ChartColoured", spec := "chartColoured", unfollowed := true, recurses := true, named := ["bellarmine/chart.others"], apart := false, laid := [("bellarmine/chart.others", laid_bellarmine_chart_others)] }
def ChartColouredSaid : Prop := chartColouredRow.holds Tryd.pinned (OpenSpec.ofChange chartColouredSpec)

/-- ITS FALSE NEIGHBOUR: 'it returns false'. Refute it at one input. -/
def chartColouredWrong : ChangeSpec := { name := "chartColoured", fn := fun _ => fun
  | [d] => { results := [.lit (.bool false)], args := [d] }
  | _ => none }
def ChartColouredWrongFalsely : Prop := chartColouredRow.holds Tryd.pinned (OpenSpec.ofChange chartColouredWrong)

/-- 'bellarminelaw09.ChartOdd': WHATEVER THE INPUT: true; the input reads as it did. -/
def chartOddSpec : ChangeSpec := { name := "chartOdd", fn := fun _ => fun
  | [d] => { results := [.lit (.bool true)], args := [d] }
  | _ => none }
def chartOddRow : OpenClaim := { program := "ytfiebjbhiflfpaadoor", sum := "5a0e0504b26d85adfffcb458f8ff37d111f8c890d51dd96c45aad9b110818cca", func := "bellarmine/bellarminelaw09.ChartOdd", spec := "chartOdd", unfollowed := true, recurses := true, named := ["bellarmine/chart.others"], apart := false, laid := [("bellarmine/chart.others", laid_bellarmine_chart_others)] }
def ChartOddSaid : Prop := chartOddRow.holds Tryd.pinned (OpenSpec.ofChange chartOddSpec)

/-- ITS FALSE NEIGHBOUR: 'it returns false'. Refute it at one input. -/
def chartOddWrong : ChangeSpec := { name := "chartOdd", fn := fun _ => fun
  | [d] => { results := [.lit (.bool false)], args := [d] }
  | _ => none }
def ChartOddWrongFalsely : Prop := chartOddRow.holds Tryd.pinned (OpenSpec.ofChange chartOddWrong)

/-- 'bellarminelaw09.ChartNamed': WHATEVER THE INPUT: true; the input reads as it did. -/
def chartNamedSpec : ChangeSpec := { name := "chartNamed", fn := fun _ => fun
  | [d1, d2] => { results := [.lit (.bool true)], args := [d1, d2] }
  | _ => none }
def chartNamedRow : OpenClaim := { program := "ytfiebjbhiflfpaadoor", sum := "5a0e0504b26d85adfffcb458f8ff37d111f8c890d51dd96c45aad9b110818cca", func := "bellarmine/bellarminelaw09.ChartNamed", spec := "chartNamed", unfollowed := true, recurses := true, named := ["bellarmine/chart.others"], apart := false, laid := [("bellarmine/chart.others", laid_bellarmine_chart_others)] }
def ChartNamedSaid : Prop := chartNamedRow.holds Tryd.pinned (OpenSpec.ofChange chartNamedSpec)

/-- ITS FALSE NEIGHBOUR: 'it returns false'. Refute it at one input. -/
def chartNamedWrong : ChangeSpec := { name := "chartNamed", fn := fun _ => fun
  | [d1, d2] => { results := [.lit (.bool false)], args := [d1, d2] }
  | _ => none }
def ChartNamedWrongFalsely : Prop := chartNamedRow.holds Tryd.pinned (OpenSpec.ofChange chartNamedWrong)

/-- 'bellarminelaw09.ChartDual': WHATEVER THE INPUT: true; the input reads as it did. -/
def chartDualSpec : ChangeSpec := { name := "chartDual", fn := fun _ => fun
  | [d] => { results := [.lit (.bool true)], args := [d] }
  | _ => none }
def chartDualRow : OpenClaim := { program := "ytfiebjbhiflfpaadoor", sum := "5a0e0504b26d85adfffcb458f8ff37d111f8c890d51dd96c45aad9b110818cca", func := "bellarmine/bellarminelaw09.ChartDual", spec := "chartDual", unfollowed := true, recurses := true, named := ["bellarmine/chart.others"], apart := false, laid := [("bellarmine/chart.others", laid_bellarmine_chart_others)] }
def ChartDualSaid : Prop := chartDualRow.holds Tryd.pinned (OpenSpec.ofChange chartDualSpec)

/-- ITS FALSE NEIGHBOUR: 'it returns false'. Refute it at one input. -/
def chartDualWrong : ChangeSpec := { name := "chartDual", fn := fun _ => fun
  | [d] => { results := [.lit (.bool false)], args := [d] }
  | _ => none }
def ChartDualWrongFalsely : Prop := chartDualRow.holds Tryd.pinned (OpenSpec.ofChange chartDualWrong)

/-- 'bellarminelaw09.ChartWithout': WHATEVER THE INPUT: true; the input reads as it did. -/
def chartWithoutSpec : ChangeSpec := { name := "chartWithout", fn := fun _ => fun
  | [d1, d2] => { results := [.lit (.bool true)], args := [d1, d2] }
  | _ => none }
def chartWithoutRow : OpenClaim := { program := "ytfiebjbhiflfpaadoor", sum := "5a0e0504b26d85adfffcb458f8ff37d111f8c890d51dd96c45aad9b110818cca", func := "bellarmine/bellarminelaw09.ChartWithout", spec := "chartWithout", unfollowed := true, recurses := true, named := ["bellarmine/chart.others"], apart := false, laid := [("bellarmine/chart.others", laid_bellarmine_chart_others)] }
def ChartWithoutSaid : Prop := chartWithoutRow.holds Tryd.pinned (OpenSpec.ofChange chartWithoutSpec)

/-- ITS FALSE NEIGHBOUR: 'it returns false'. Refute it at one input. -/
def chartWithoutWrong : ChangeSpec := { name := "chartWithout", fn := fun _ => fun
  | [d1, d2] => { results := [.lit (.bool false)], args := [d1, d2] }
  | _ => none }
def ChartWithoutWrongFalsely : Prop := chartWithoutRow.holds Tryd.pinned (OpenSpec.ofChange chartWithoutWrong)

/-- 'bellarminelaw09.ChartBack': WHATEVER THE INPUT: true; the input reads as it did. -/
def chartBackSpec : ChangeSpec := { name := "chartBack", fn := fun _ => fun
  | [d] => { results := [.lit (.bool true)], args := [d] }
  | _ => none }
def chartBackRow : OpenClaim := { program := "ytfiebjbhiflfpaadoor", sum := "5a0e0504b26d85adfffcb458f8ff37d111f8c890d51dd96c45aad9b110818cca", func := "bellarmine/bellarminelaw09.ChartBack", spec := "chartBack", unfollowed := true, recurses := true, named := ["bellarmine/chart.others"], apart := false, laid := [("bellarmine/chart.others", laid_bellarmine_chart_others)] }
def ChartBackSaid : Prop := chartBackRow.holds Tryd.pinned (OpenSpec.ofChange chartBackSpec)

/-- ITS FALSE NEIGHBOUR: 'it returns false'. Refute it at one input. -/
def chartBackWrong : ChangeSpec := { name := "chartBack", fn := fun _ => fun
  | [d] => { results := [.lit (.bool false)], args := [d] }
  | _ => none }
def ChartBackWrongFalsely : Prop := chartBackRow.holds Tryd.pinned (OpenSpec.ofChange chartBackWrong)

/-- 'bellarminelaw09.ChartEuler': WHATEVER THE INPUT: true; the input reads as it did. -/
def chartEulerSpec : ChangeSpec := { name := "chartEuler", fn := fun _ => fun
  | [d] => { results := [.lit (.bool true)], args := [d] }
  | _ => none }
def chartEulerRow : OpenClaim := { program := "ytfiebjbhiflfpaadoor", sum := "5a0e0504b26d85adfffcb458f8ff37d111f8c890d51dd96c45aad9b110818cca", func := "bellarmine/bellarminelaw09.ChartEuler", spec := "chartEuler", unfollowed := true, recurses := true, named := ["bellarmine/chart.others"], apart := false, laid := [("bellarmine/chart.others", laid_bellarmine_chart_others)] }
def ChartEulerSaid : Prop := chartEulerRow.holds Tryd.pinned (OpenSpec.ofChange chartEulerSpec)

/-- ITS FALSE NEIGHBOUR: 'it returns false'. Refute it at one input. -/
def chartEulerWrong : ChangeSpec := { name := "chartEuler", fn := fun _ => fun
  | [d] => { results := [.lit (.bool false)], args := [d] }
  | _ => none }
def ChartEulerWrongFalsely : Prop := chartEulerRow.holds Tryd.pinned (OpenSpec.ofChange chartEulerWrong)

/- THE SECOND FORM. 'bulk': how many values and letters a reading holds, each counted each time it is reached (what is shared counts as often as it is met; a slice's spare places count too). A statement '..UptoSaid' is the law's where the arguments, and the package variables that the reading takes, are together of bulk at most 1048576: NARROWER than '..Said'. Prove '..Said' where nothing that the law and all that it calls make is longer than what came in: it says more and counts as full. Else prove '..UptoSaid'. A law counts once. -/
mutual
def uptoBulk {H : Type} : DataW H → Nat
  | .lit (.string bytes) => bytes.length + 1
  | .lit _ => 1
  | .nil => 1
  | .ptr d => uptoBulk d + 1
  | .slice elems spare => uptoBulkAll elems + uptoBulkAll spare + 1
  | .agg parts => uptoBulkAll parts + 1
  | .iface _ d => uptoBulk d + 1
  | .map entries => uptoBulkEntries entries + 1
  | .held _ => 1
def uptoBulkAll {H : Type} : List (DataW H) → Nat
  | [] => 0
  | d :: r => uptoBulk d + uptoBulkAll r
def uptoBulkEntries {H : Type} : List (Lit × DataW H) → Nat
  | [] => 0
  | x :: r => uptoBulkEntry x + uptoBulkEntries r
def uptoBulkEntry {H : Type} : Lit × DataW H → Nat
  | (.string bytes, d) => bytes.length + uptoBulk d + 1
  | (_, d) => uptoBulk d + 1
 end
def uptoSmall : (H : Type) → List (DataW H) → Bool := fun _ ds => decide (uptoBulkAll ds ≤ 1048576)
def OpenSpec.upto (s : _root_.Go.ChangeSpec) : _root_.Go.OpenSpec := { _root_.Go.OpenSpec.ofChange s with cond := some uptoSmall }

/-- 'bellarminelaw09.ChartDuals', WHERE WHAT IT READS IS OF BULK AT MOST 1048576: true; the input reads as it did. -/
def chartDualsUptoRow : OpenClaim := { program := "ytfiebjbhiflfpaadoor", sum := "5a0e0504b26d85adfffcb458f8ff37d111f8c890d51dd96c45aad9b110818cca", func := "bellarmine/bellarminelaw09.ChartDuals", spec := "chartDuals", unfollowed := true, recurses := true, named := ["bellarmine/chart.others"], apart := false, laid := [("bellarmine/chart.others", laid_bellarmine_chart_others)], narrowed := true }
def ChartDualsUptoSaid : Prop := chartDualsUptoRow.holds Tryd.pinned (OpenSpec.upto chartDualsSpec)

/-- 'bellarminelaw09.ChartColours', WHERE WHAT IT READS IS OF BULK AT MOST 1048576: true; the input reads as it did. -/
def chartColoursUptoRow : OpenClaim := { program := "ytfiebjbhiflfpaadoor", sum := "5a0e0504b26d85adfffcb458f8ff37d111f8c890d51dd96c45aad9b110818cca", func := "bellarmine/bellarminelaw09.ChartColours", spec := "chartColours", unfollowed := true, recurses := true, named := ["bellarmine/chart.others"], apart := false, laid := [("bellarmine/chart.others", laid_bellarmine_chart_others)], narrowed := true }
def ChartColoursUptoSaid : Prop := chartColoursUptoRow.holds Tryd.pinned (OpenSpec.upto chartColoursSpec)

/-- 'bellarminelaw09.ChartRings', WHERE WHAT IT READS IS OF BULK AT MOST 1048576: true; the input reads as it did. -/
def chartRingsUptoRow : OpenClaim := { program := "ytfiebjbhiflfpaadoor", sum := "5a0e0504b26d85adfffcb458f8ff37d111f8c890d51dd96c45aad9b110818cca", func := "bellarmine/bellarminelaw09.ChartRings", spec := "chartRings", unfollowed := true, recurses := true, named := ["bellarmine/chart.others"], apart := false, laid := [("bellarmine/chart.others", laid_bellarmine_chart_others)], narrowed := true }
def ChartRingsUptoSaid : Prop := chartRingsUptoRow.holds Tryd.pinned (OpenSpec.upto chartRingsSpec)

/-- 'bellarminelaw09.ChartKnown', WHERE WHAT IT READS IS OF BULK AT MOST 1048576: true; the input reads as it did. -/
def chartKnownUptoRow : OpenClaim := { program := "ytfiebjbhiflfpaadoor", sum := "5a0e0504b26d85adfffcb458f8ff37d111f8c890d51dd96c45aad9b110818cca", func := "bellarmine/bellarminelaw09.ChartKnown", spec := "chartKnown", unfollowed := true, recurses := true, named := ["bellarmine/chart.others"], apart := false, laid := [("bellarmine/chart.others", laid_bellarmine_chart_others)], narrowed := true }
def ChartKnownUptoSaid : Prop := chartKnownUptoRow.holds Tryd.pinned (OpenSpec.upto chartKnownSpec)

/-- 'bellarminelaw09.ChartFaces', WHERE WHAT IT READS IS OF BULK AT MOST 1048576: true; the input reads as it did. -/
def chartFacesUptoRow : OpenClaim := { program := "ytfiebjbhiflfpaadoor", sum := "5a0e0504b26d85adfffcb458f8ff37d111f8c890d51dd96c45aad9b110818cca", func := "bellarmine/bellarminelaw09.ChartFaces", spec := "chartFaces", unfollowed := true, recurses := true, named := ["bellarmine/chart.others"], apart := false, laid := [("bellarmine/chart.others", laid_bellarmine_chart_others)], narrowed := true }
def ChartFacesUptoSaid : Prop := chartFacesUptoRow.holds Tryd.pinned (OpenSpec.upto chartFacesSpec)

/-- 'bellarminelaw09.ChartColoured', WHERE WHAT IT READS IS OF BULK AT MOST 1048576: true; the input reads as it did. -/
def chartColouredUptoRow : OpenClaim := { program := "ytfiebjbhiflfpaadoor", sum := "5a0e0504b26d85adfffcb458f8ff37d111f8c890d51dd96c45aad9b110818cca", func := "bellarmine/bellarminelaw09.ChartColoured", spec := "chartColoured", unfollowed := true, recurses := true, named := ["bellarmine/chart.others"], apart := false, laid := [("bellarmine/chart.others", laid_bellarmine_chart_others)], narrowed := true }
def ChartColouredUptoSaid : Prop := chartColouredUptoRow.holds Tryd.pinned (OpenSpec.upto chartColouredSpec)

/-- 'bellarminelaw09.ChartOdd', WHERE WHAT IT READS IS OF BULK AT MOST 1048576: true; the input reads as it did. -/
def chartOddUptoRow : OpenClaim := { program := "ytfiebjbhiflfpaadoor", sum := "5a0e0504b26d85adfffcb458f8ff37d111f8c890d51dd96c45aad9b110818cca", func := "bellarmine/bellarminelaw09.ChartOdd", spec := "chartOdd", unfollowed := true, recurses := true, named := ["bellarmine/chart.others"], apart := false, laid := [("bellarmine/chart.others", laid_bellarmine_chart_others)], narrowed := true }
def ChartOddUptoSaid : Prop := chartOddUptoRow.holds Tryd.pinned (OpenSpec.upto chartOddSpec)

/-- 'bellarminelaw09.ChartNamed', WHERE WHAT IT READS IS OF BULK AT MOST 1048576: true; the input reads as it did. -/
def chartNamedUptoRow : OpenClaim := { program := "ytfiebjbhiflfpaadoor", sum := "5a0e0504b26d85adfffcb458f8ff37d111f8c890d51dd96c45aad9b110818cca", func := "bellarmine/bellarminelaw09.ChartNamed", spec := "chartNamed", unfollowed := true, recurses := true, named := ["bellarmine/chart.others"], apart := false, laid := [("bellarmine/chart.others", laid_bellarmine_chart_others)], narrowed := true }
def ChartNamedUptoSaid : Prop := chartNamedUptoRow.holds Tryd.pinned (OpenSpec.upto chartNamedSpec)

/-- 'bellarminelaw09.ChartDual', WHERE WHAT IT READS IS OF BULK AT MOST 1048576: true; the input reads as it did. -/
def chartDualUptoRow : OpenClaim := { program := "ytfiebjbhiflfpaadoor", sum := "5a0e0504b26d85adfffcb458f8ff37d111f8c890d51dd96c45aad9b110818cca", func := "bellarmine/bellarminelaw09.ChartDual", spec := "chartDual", unfollowed := true, recurses := true, named := ["bellarmine/chart.others"], apart := false, laid := [("bellarmine/chart.others", laid_bellarmine_chart_others)], narrowed := true }
def ChartDualUptoSaid : Prop := chartDualUptoRow.holds Tryd.pinned (OpenSpec.upto chartDualSpec)

/-- 'bellarminelaw09.ChartWithout', WHERE WHAT IT READS IS OF BULK AT MOST 1048576: true; the input reads as it did. -/
def chartWithoutUptoRow : OpenClaim := { program := "ytfiebjbhiflfpaadoor", sum := "5a0e0504b26d85adfffcb458f8ff37d111f8c890d51dd96c45aad9b110818cca", func := "bellarmine/bellarminelaw09.ChartWithout", spec := "chartWithout", unfollowed := true, recurses := true, named := ["bellarmine/chart.others"], apart := false, laid := [("bellarmine/chart.others", laid_bellarmine_chart_others)], narrowed := true }
def ChartWithoutUptoSaid : Prop := chartWithoutUptoRow.holds Tryd.pinned (OpenSpec.upto chartWithoutSpec)

/-- 'bellarminelaw09.ChartBack', WHERE WHAT IT READS IS OF BULK AT MOST 1048576: true; the input reads as it did. -/
def chartBackUptoRow : OpenClaim := { program := "ytfiebjbhiflfpaadoor", sum := "5a0e0504b26d85adfffcb458f8ff37d111f8c890d51dd96c45aad9b110818cca", func := "bellarmine/bellarminelaw09.ChartBack", spec := "chartBack", unfollowed := true, recurses := true, named := ["bellarmine/chart.others"], apart := false, laid := [("bellarmine/chart.others", laid_bellarmine_chart_others)], narrowed := true }
def ChartBackUptoSaid : Prop := chartBackUptoRow.holds Tryd.pinned (OpenSpec.upto chartBackSpec)

/-- 'bellarminelaw09.ChartEuler', WHERE WHAT IT READS IS OF BULK AT MOST 1048576: true; the input reads as it did. -/
def chartEulerUptoRow : OpenClaim := { program := "ytfiebjbhiflfpaadoor", sum := "5a0e0504b26d85adfffcb458f8ff37d111f8c890d51dd96c45aad9b110818cca", func := "bellarmine/bellarminelaw09.ChartEuler", spec := "chartEuler", unfollowed := true, recurses := true, named := ["bellarmine/chart.others"], apart := false, laid := [("bellarmine/chart.others", laid_bellarmine_chart_others)], narrowed := true }
def ChartEulerUptoSaid : Prop := chartEulerUptoRow.holds Tryd.pinned (OpenSpec.upto chartEulerSpec)

end Rows
end Go.Proofs.YtfiebjbhiflfpaaDoor
