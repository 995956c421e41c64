/-
  DERIVED. GIVEN WITH THE SEED: THE CARDS: each row of YtfiebjbhiflfpaaDoorRows.lean that lists a variable, with what it lists TIED to the program's text (the seventh form; the later family's looks); each row that meets fmt, with fmt's text TOLD by the authors' own Lean function (tested against real Go, not proved from fmt's source: count such statements apart). THE CARD IS WHAT COUNTS. Prove the row's statement (the work); the ties are given (YtfiebjbhiflfpaaDoorTie.lean); close each card by the builder's one call (the guide's Derived/Test/ToyasCard.lean, 'card_holds'). Laid BY PROGRAM, IN A SANDBOX (cutbox-door.mjs). By AI agents, Wed Nov 11 2026. No macro, syntax, notation, axiom, sorry.
-/
import Derived.Test.YtfiebjbhiflfpaaDoorRows
import GoSem.ClaimSeven
namespace Go.Proofs.YtfiebjbhiflfpaaDoor
namespace Rows

/-- THE TIED CARD OF 'bellarminelaw09.ChartDuals'. -/
def chartDualsCard : Claim7 := { stood := { row := chartDualsRow, standIns := [], harness := (true, "85decda5bb3614a8c7708f423a54af538417e6802e2c80cf031848972d83ff7a"), looks := false }, kinds := [], alts := [], laidByText := true, laidKinds := [.data], laidTests := true, laidLooks := .later }
def ChartDualsCardSaid : Prop := Claim7.holds Tryd.pinned (.plain (OpenSpec.ofChange chartDualsSpec)) chartDualsCard

/-- THE TIED CARD OF 'bellarminelaw09.ChartColours'. -/
def chartColoursCard : Claim7 := { stood := { row := chartColoursRow, standIns := [], harness := (true, "85decda5bb3614a8c7708f423a54af538417e6802e2c80cf031848972d83ff7a"), looks := false }, kinds := [], alts := [], laidByText := true, laidKinds := [.data], laidTests := true, laidLooks := .later }
def ChartColoursCardSaid : Prop := Claim7.holds Tryd.pinned (.plain (OpenSpec.ofChange chartColoursSpec)) chartColoursCard

/-- THE TIED CARD OF 'bellarminelaw09.ChartRings'. -/
def chartRingsCard : Claim7 := { stood := { row := chartRingsRow, standIns := [], harness := (true, "85decda5bb3614a8c7708f423a54af538417e6802e2c80cf031848972d83ff7a"), looks := false }, kinds := [], alts := [], laidByText := true, laidKinds := [.data], laidTests := true, laidLooks := .later }
def ChartRingsCardSaid : Prop := Claim7.holds Tryd.pinned (.plain (OpenSpec.ofChange chartRingsSpec)) chartRingsCard

/-- THE TIED CARD OF 'bellarminelaw09.ChartKnown'. -/
def chartKnownCard : Claim7 := { stood := { row := chartKnownRow, standIns := [], harness := (true, "85decda5bb3614a8c7708f423a54af538417e6802e2c80cf031848972d83ff7a"), looks := false }, kinds := [], alts := [], laidByText := true, laidKinds := [.data], laidTests := true, laidLooks := .later }
def ChartKnownCardSaid : Prop := Claim7.holds Tryd.pinned (.plain (OpenSpec.ofChange chartKnownSpec)) chartKnownCard

/-- THE TIED CARD OF 'bellarminelaw09.ChartFaces'. -/
def chartFacesCard : Claim7 := { stood := { row := chartFacesRow, standIns := [], harness := (true, "85decda5bb3614a8c7708f423a54af538417e6802e2c80cf031848972d83ff7a"), looks := false }, kinds := [], alts := [], laidByText := true, laidKinds := [.data], laidTests := true, laidLooks := .later }
def ChartFacesCardSaid : Prop := Claim7.holds Tryd.pinned (.plain (OpenSpec.ofChange chartFacesSpec)) chartFacesCard

/-- THE TIED CARD OF 'bellarminelaw09.ChartColoured'. -/
def chartColouredCard : Claim7 := { stood := { row := chartColouredRow, standIns := [], harness := (true, "85decda5bb3614a8c7708f423a54af538417e6802e2c80cf031848972d83ff7a"), looks := false }, kinds := [], alts := [], laidByText := true, laidKinds := [.data], laidTests := true, laidLooks := .later }
def ChartColouredCardSaid : Prop := Claim7.holds Tryd.pinned (.plain (OpenSpec.ofChange chartColouredSpec)) chartColouredCard

/-- THE TIED CARD OF 'bellarminelaw09.ChartOdd'. -/
def chartOddCard : Claim7 := { stood := { row := chartOddRow, standIns := [], harness := (true, "85decda5bb3614a8c7708f423a54af538417e6802e2c80cf031848972d83ff7a"), looks := false }, kinds := [], alts := [], laidByText := true, laidKinds := [.data], laidTests := true, laidLooks := .later }
def ChartOddCardSaid : Prop := Claim7.holds Tryd.pinned (.plain (OpenSpec.ofChange chartOddSpec)) chartOddCard

/-- THE TIED CARD OF 'bellarminelaw09.ChartNamed'. -/
def chartNamedCard : Claim7 := { stood := { row := chartNamedRow, standIns := [], harness := (true, "85decda5bb3614a8c7708f423a54af538417e6802e2c80cf031848972d83ff7a"), looks := false }, kinds := [], alts := [], laidByText := true, laidKinds := [.data], laidTests := true, laidLooks := .later }
def ChartNamedCardSaid : Prop := Claim7.holds Tryd.pinned (.plain (OpenSpec.ofChange chartNamedSpec)) chartNamedCard

/-- THE TIED CARD OF 'bellarminelaw09.ChartDual'. -/
def chartDualCard : Claim7 := { stood := { row := chartDualRow, standIns := [], harness := (true, "85decda5bb3614a8c7708f423a54af538417e6802e2c80cf031848972d83ff7a"), looks := false }, kinds := [], alts := [], laidByText := true, laidKinds := [.data], laidTests := true, laidLooks := .later }
def ChartDualCardSaid : Prop := Claim7.holds Tryd.pinned (.plain (OpenSpec.ofChange chartDualSpec)) chartDualCard

/-- THE TIED CARD OF 'bellarminelaw09.ChartWithout'. -/
def chartWithoutCard : Claim7 := { stood := { row := chartWithoutRow, standIns := [], harness := (true, "85decda5bb3614a8c7708f423a54af538417e6802e2c80cf031848972d83ff7a"), looks := false }, kinds := [], alts := [], laidByText := true, laidKinds := [.data], laidTests := true, laidLooks := .later }
def ChartWithoutCardSaid : Prop := Claim7.holds Tryd.pinned (.plain (OpenSpec.ofChange chartWithoutSpec)) chartWithoutCard

/-- THE TIED CARD OF 'bellarminelaw09.ChartBack'. -/
def chartBackCard : Claim7 := { stood := { row := chartBackRow, standIns := [], harness := (true, "85decda5bb3614a8c7708f423a54af538417e6802e2c80cf031848972d83ff7a"), looks := false }, kinds := [], alts := [], laidByText := true, laidKinds := [.data], laidTests := true, laidLooks := .later }
def ChartBackCardSaid : Prop := Claim7.holds Tryd.pinned (.plain (OpenSpec.ofChange chartBackSpec)) chartBackCard

/-- THE TIED CARD OF 'bellarminelaw09.ChartEuler'. -/
def chartEulerCard : Claim7 := { stood := { row := chartEulerRow, standIns := [], harness := (true, "85decda5bb3614a8c7708f423a54af538417e6802e2c80cf031848972d83ff7a"), looks := false }, kinds := [], alts := [], laidByText := true, laidKinds := [.data], laidTests := true, laidLooks := .later }
def ChartEulerCardSaid : Prop := Claim7.holds Tryd.pinned (.plain (OpenSpec.ofChange chartEulerSpec)) chartEulerCard

/-- THE SECOND FORM's CARD OF 'bellarminelaw09.ChartDuals'. -/
def chartDualsUptoCard : Claim7 := { stood := { row := chartDualsUptoRow, standIns := [], harness := (true, "85decda5bb3614a8c7708f423a54af538417e6802e2c80cf031848972d83ff7a"), looks := false }, kinds := [], alts := [], laidByText := true, laidKinds := [.data], laidTests := true, laidLooks := .later }
def ChartDualsUptoCardSaid : Prop := Claim7.holds Tryd.pinned (.plain (OpenSpec.upto chartDualsSpec)) chartDualsUptoCard

/-- THE SECOND FORM's CARD OF 'bellarminelaw09.ChartColours'. -/
def chartColoursUptoCard : Claim7 := { stood := { row := chartColoursUptoRow, standIns := [], harness := (true, "85decda5bb3614a8c7708f423a54af538417e6802e2c80cf031848972d83ff7a"), looks := false }, kinds := [], alts := [], laidByText := true, laidKinds := [.data], laidTests := true, laidLooks := .later }
def ChartColoursUptoCardSaid : Prop := Claim7.holds Tryd.pinned (.plain (OpenSpec.upto chartColoursSpec)) chartColoursUptoCard

/-- THE SECOND FORM's CARD OF 'bellarminelaw09.ChartRings'. -/
def chartRingsUptoCard : Claim7 := { stood := { row := chartRingsUptoRow, standIns := [], harness := (true, "85decda5bb3614a8c7708f423a54af538417e6802e2c80cf031848972d83ff7a"), looks := false }, kinds := [], alts := [], laidByText := true, laidKinds := [.data], laidTests := true, laidLooks := .later }
def ChartRingsUptoCardSaid : Prop := Claim7.holds Tryd.pinned (.plain (OpenSpec.upto chartRingsSpec)) chartRingsUptoCard

/-- THE SECOND FORM's CARD OF 'bellarminelaw09.ChartKnown'. -/
def chartKnownUptoCard : Claim7 := { stood := { row := chartKnownUptoRow, standIns := [], harness := (true, "85decda5bb3614a8c7708f423a54af538417e6802e2c80cf031848972d83ff7a"), looks := false }, kinds := [], alts := [], laidByText := true, laidKinds := [.data], laidTests := true, laidLooks := .later }
def ChartKnownUptoCardSaid : Prop := Claim7.holds Tryd.pinned (.plain (OpenSpec.upto chartKnownSpec)) chartKnownUptoCard

/-- THE SECOND FORM's CARD OF 'bellarminelaw09.ChartFaces'. -/
def chartFacesUptoCard : Claim7 := { stood := { row := chartFacesUptoRow, standIns := [], harness := (true, "85decda5bb3614a8c7708f423a54af538417e6802e2c80cf031848972d83ff7a"), looks := false }, kinds := [], alts := [], laidByText := true, laidKinds := [.data], laidTests := true, laidLooks := .later }
def ChartFacesUptoCardSaid : Prop := Claim7.holds Tryd.pinned (.plain (OpenSpec.upto chartFacesSpec)) chartFacesUptoCard

/-- THE SECOND FORM's CARD OF 'bellarminelaw09.ChartColoured'. -/
def chartColouredUptoCard : Claim7 := { stood := { row := chartColouredUptoRow, standIns := [], harness := (true, "85decda5bb3614a8c7708f423a54af538417e6802e2c80cf031848972d83ff7a"), looks := false }, kinds := [], alts := [], laidByText := true, laidKinds := [.data], laidTests := true, laidLooks := .later }
def ChartColouredUptoCardSaid : Prop := Claim7.holds Tryd.pinned (.plain (OpenSpec.upto chartColouredSpec)) chartColouredUptoCard

/-- THE SECOND FORM's CARD OF 'bellarminelaw09.ChartOdd'. -/
def chartOddUptoCard : Claim7 := { stood := { row := chartOddUptoRow, standIns := [], harness := (true, "85decda5bb3614a8c7708f423a54af538417e6802e2c80cf031848972d83ff7a"), looks := false }, kinds := [], alts := [], laidByText := true, laidKinds := [.data], laidTests := true, laidLooks := .later }
def ChartOddUptoCardSaid : Prop := Claim7.holds Tryd.pinned (.plain (OpenSpec.upto chartOddSpec)) chartOddUptoCard

/-- THE SECOND FORM's CARD OF 'bellarminelaw09.ChartNamed'. -/
def chartNamedUptoCard : Claim7 := { stood := { row := chartNamedUptoRow, standIns := [], harness := (true, "85decda5bb3614a8c7708f423a54af538417e6802e2c80cf031848972d83ff7a"), looks := false }, kinds := [], alts := [], laidByText := true, laidKinds := [.data], laidTests := true, laidLooks := .later }
def ChartNamedUptoCardSaid : Prop := Claim7.holds Tryd.pinned (.plain (OpenSpec.upto chartNamedSpec)) chartNamedUptoCard

/-- THE SECOND FORM's CARD OF 'bellarminelaw09.ChartDual'. -/
def chartDualUptoCard : Claim7 := { stood := { row := chartDualUptoRow, standIns := [], harness := (true, "85decda5bb3614a8c7708f423a54af538417e6802e2c80cf031848972d83ff7a"), looks := false }, kinds := [], alts := [], laidByText := true, laidKinds := [.data], laidTests := true, laidLooks := .later }
def ChartDualUptoCardSaid : Prop := Claim7.holds Tryd.pinned (.plain (OpenSpec.upto chartDualSpec)) chartDualUptoCard

/-- THE SECOND FORM's CARD OF 'bellarminelaw09.ChartWithout'. -/
def chartWithoutUptoCard : Claim7 := { stood := { row := chartWithoutUptoRow, standIns := [], harness := (true, "85decda5bb3614a8c7708f423a54af538417e6802e2c80cf031848972d83ff7a"), looks := false }, kinds := [], alts := [], laidByText := true, laidKinds := [.data], laidTests := true, laidLooks := .later }
def ChartWithoutUptoCardSaid : Prop := Claim7.holds Tryd.pinned (.plain (OpenSpec.upto chartWithoutSpec)) chartWithoutUptoCard

/-- THE SECOND FORM's CARD OF 'bellarminelaw09.ChartBack'. -/
def chartBackUptoCard : Claim7 := { stood := { row := chartBackUptoRow, standIns := [], harness := (true, "85decda5bb3614a8c7708f423a54af538417e6802e2c80cf031848972d83ff7a"), looks := false }, kinds := [], alts := [], laidByText := true, laidKinds := [.data], laidTests := true, laidLooks := .later }
def ChartBackUptoCardSaid : Prop := Claim7.holds Tryd.pinned (.plain (OpenSpec.upto chartBackSpec)) chartBackUptoCard

/-- THE SECOND FORM's CARD OF 'bellarminelaw09.ChartEuler'. -/
def chartEulerUptoCard : Claim7 := { stood := { row := chartEulerUptoRow, standIns := [], harness := (true, "85decda5bb3614a8c7708f423a54af538417e6802e2c80cf031848972d83ff7a"), looks := false }, kinds := [], alts := [], laidByText := true, laidKinds := [.data], laidTests := true, laidLooks := .later }
def ChartEulerUptoCardSaid : Prop := Claim7.holds Tryd.pinned (.plain (OpenSpec.upto chartEulerSpec)) chartEulerUptoCard
end Rows
end Go.Proofs.YtfiebjbhiflfpaaDoor
