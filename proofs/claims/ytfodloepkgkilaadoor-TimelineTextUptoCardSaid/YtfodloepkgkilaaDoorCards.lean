/-
  DERIVED. GIVEN WITH THE SEED: THE CARDS: each row of YtfodloepkgkilaaDoorRows.lean that lists a variable, with what it lists TIED to the program's text (the seventh form; the later family's looks); each row that meets fmt, with fmt's text TOLD by the authors' own Lean function (tested against real Go, not proved from fmt's source: count such statements apart). THE CARD IS WHAT COUNTS. Prove the row's statement (the work); the ties are given (YtfodloepkgkilaaDoorTie.lean); close each card by the builder's one call (the guide's Derived/Test/ToyasCard.lean, 'card_holds'). Laid BY PROGRAM, IN A SANDBOX (cutbox-door.mjs). By AI agents, Wed Nov 11 2026. No macro, syntax, notation, axiom, sorry.
-/
import Derived.Test.YtfodloepkgkilaaDoorRows
import GoSem.ClaimSeven
namespace Go.Proofs.YtfodloepkgkilaaDoor
namespace Rows

/-- THE TIED CARD OF 'palaverlaw11.IdentTells'. -/
def identTellsCard : Claim7 := { stood := { row := identTellsRow, standIns := [], harness := (true, "e56e83b23acde339eab855442079cb519c1e1b34ea339206a23977b272f001a4"), looks := true }, kinds := [], alts := [], laidByText := true, laidKinds := [.data, .data, .data, .sentinel, .sentinel, .data], laidTests := true, laidLooks := .later }
def IdentTellsCardSaid : Prop := Claim7.holds Tryd.pinned (.plain (OpenSpec.ofChange identTellsSpec)) identTellsCard

/-- THE TIED CARD OF 'palaverlaw11.IdentBack'. -/
def identBackCard : Claim7 := { stood := { row := identBackRow, standIns := [], harness := (true, "e56e83b23acde339eab855442079cb519c1e1b34ea339206a23977b272f001a4"), looks := true }, kinds := [], alts := [], laidByText := true, laidKinds := [.data, .data, .data, .sentinel, .sentinel, .data], laidTests := true, laidLooks := .later }
def IdentBackCardSaid : Prop := Claim7.holds Tryd.pinned (.plain (OpenSpec.ofChange identBackSpec)) identBackCard

/-- THE TIED CARD OF 'palaverlaw13.RedactTells'. -/
def redactTellsCard : Claim7 := { stood := { row := redactTellsRow, standIns := [], harness := (true, "e56e83b23acde339eab855442079cb519c1e1b34ea339206a23977b272f001a4"), looks := true }, kinds := [], alts := [], laidByText := true, laidKinds := [.data, .data, .data, .data, .data, .sentinel, .sentinel, .data, .data], laidTests := true, laidLooks := .later }
def RedactTellsCardSaid : Prop := Claim7.holds Tryd.pinned (.plain (OpenSpec.ofChange redactTellsSpec)) redactTellsCard

/-- THE TIED CARD OF 'palaverlaw13.RedactStable'. -/
def redactStableCard : Claim7 := { stood := { row := redactStableRow, standIns := [], harness := (true, "e56e83b23acde339eab855442079cb519c1e1b34ea339206a23977b272f001a4"), looks := true }, kinds := [], alts := [], laidByText := true, laidKinds := [.data, .data, .data, .data, .data, .sentinel, .sentinel, .data, .data], laidTests := true, laidLooks := .later }
def RedactStableCardSaid : Prop := Claim7.holds Tryd.pinned (.plain (OpenSpec.ofChange redactStableSpec)) redactStableCard

/-- THE TIED CARD OF 'palaverlaw13.RedactApart'. -/
def redactApartCard : Claim7 := { stood := { row := redactApartRow, standIns := [], harness := (true, "e56e83b23acde339eab855442079cb519c1e1b34ea339206a23977b272f001a4"), looks := true }, kinds := [], alts := [], laidByText := true, laidKinds := [.data, .data, .data, .data, .data, .sentinel, .sentinel, .data, .data], laidTests := true, laidLooks := .later }
def RedactApartCardSaid : Prop := Claim7.holds Tryd.pinned (.plain (OpenSpec.ofChange redactApartSpec)) redactApartCard

/-- THE TIED CARD OF 'palaverlaw12.EventTells'. -/
def eventTellsCard : Claim7 := { stood := { row := eventTellsRow, standIns := [], harness := (true, "e56e83b23acde339eab855442079cb519c1e1b34ea339206a23977b272f001a4"), looks := true }, kinds := [], alts := [], laidByText := true, laidKinds := [.data, .data, .data, .sentinel, .sentinel, .data, .data], laidTests := true, laidLooks := .later }
def EventTellsCardSaid : Prop := Claim7.holds Tryd.pinned (.plain (OpenSpec.ofChange eventTellsSpec)) eventTellsCard

/-- THE TIED CARD OF 'palaverlaw12.EventBack'. -/
def eventBackCard : Claim7 := { stood := { row := eventBackRow, standIns := [], harness := (true, "e56e83b23acde339eab855442079cb519c1e1b34ea339206a23977b272f001a4"), looks := true }, kinds := [], alts := [], laidByText := true, laidKinds := [.data, .data, .data, .sentinel, .sentinel, .data, .data], laidTests := true, laidLooks := .later }
def EventBackCardSaid : Prop := Claim7.holds Tryd.pinned (.plain (OpenSpec.ofChange eventBackSpec)) eventBackCard

/-- THE TIED CARD OF 'palaverlaw38.TimelinePicks'. -/
def timelinePicksCard : Claim7 := { stood := { row := timelinePicksRow, standIns := [], harness := (true, "e56e83b23acde339eab855442079cb519c1e1b34ea339206a23977b272f001a4"), looks := true }, kinds := [], alts := [], laidByText := true, laidKinds := [.data, .data, .data, .data, .data, .sentinel, .sentinel, .data, .data], laidTests := true, laidLooks := .later }
def TimelinePicksCardSaid : Prop := Claim7.holds Tryd.pinned (.plain (OpenSpec.ofChange timelinePicksSpec)) timelinePicksCard

/-- THE TIED CARD OF 'palaverlaw38.TimelineLater'. -/
def timelineLaterCard : Claim7 := { stood := { row := timelineLaterRow, standIns := [], harness := (true, "e56e83b23acde339eab855442079cb519c1e1b34ea339206a23977b272f001a4"), looks := true }, kinds := [], alts := [], laidByText := true, laidKinds := [.data, .data, .data, .data, .data, .sentinel, .sentinel, .data, .data], laidTests := true, laidLooks := .later }
def TimelineLaterCardSaid : Prop := Claim7.holds Tryd.pinned (.plain (OpenSpec.ofChange timelineLaterSpec)) timelineLaterCard

/-- THE TIED CARD OF 'palaverlaw38.TimelineText'. -/
def timelineTextCard : Claim7 := { stood := { row := timelineTextRow, standIns := [], harness := (true, "e56e83b23acde339eab855442079cb519c1e1b34ea339206a23977b272f001a4"), looks := true }, kinds := [], alts := [], laidByText := true, laidKinds := [.data, .data, .data, .data, .data, .sentinel, .sentinel, .data, .data], laidTests := true, laidLooks := .later }
def TimelineTextCardSaid : Prop := Claim7.holds Tryd.pinned (.plain (OpenSpec.ofChange timelineTextSpec)) timelineTextCard

/-- THE SECOND FORM's CARD OF 'palaverlaw11.IdentTells'. -/
def identTellsUptoCard : Claim7 := { stood := { row := identTellsUptoRow, standIns := [], harness := (true, "e56e83b23acde339eab855442079cb519c1e1b34ea339206a23977b272f001a4"), looks := true }, kinds := [], alts := [], laidByText := true, laidKinds := [.data, .data, .data, .sentinel, .sentinel, .data], laidTests := true, laidLooks := .later }
def IdentTellsUptoCardSaid : Prop := Claim7.holds Tryd.pinned (.plain (OpenSpec.upto identTellsSpec)) identTellsUptoCard

/-- THE SECOND FORM's CARD OF 'palaverlaw11.IdentBack'. -/
def identBackUptoCard : Claim7 := { stood := { row := identBackUptoRow, standIns := [], harness := (true, "e56e83b23acde339eab855442079cb519c1e1b34ea339206a23977b272f001a4"), looks := true }, kinds := [], alts := [], laidByText := true, laidKinds := [.data, .data, .data, .sentinel, .sentinel, .data], laidTests := true, laidLooks := .later }
def IdentBackUptoCardSaid : Prop := Claim7.holds Tryd.pinned (.plain (OpenSpec.upto identBackSpec)) identBackUptoCard

/-- THE SECOND FORM's CARD OF 'palaverlaw13.RedactTells'. -/
def redactTellsUptoCard : Claim7 := { stood := { row := redactTellsUptoRow, standIns := [], harness := (true, "e56e83b23acde339eab855442079cb519c1e1b34ea339206a23977b272f001a4"), looks := true }, kinds := [], alts := [], laidByText := true, laidKinds := [.data, .data, .data, .data, .data, .sentinel, .sentinel, .data, .data], laidTests := true, laidLooks := .later }
def RedactTellsUptoCardSaid : Prop := Claim7.holds Tryd.pinned (.plain (OpenSpec.upto redactTellsSpec)) redactTellsUptoCard

/-- THE SECOND FORM's CARD OF 'palaverlaw13.RedactStable'. -/
def redactStableUptoCard : Claim7 := { stood := { row := redactStableUptoRow, standIns := [], harness := (true, "e56e83b23acde339eab855442079cb519c1e1b34ea339206a23977b272f001a4"), looks := true }, kinds := [], alts := [], laidByText := true, laidKinds := [.data, .data, .data, .data, .data, .sentinel, .sentinel, .data, .data], laidTests := true, laidLooks := .later }
def RedactStableUptoCardSaid : Prop := Claim7.holds Tryd.pinned (.plain (OpenSpec.upto redactStableSpec)) redactStableUptoCard

/-- THE SECOND FORM's CARD OF 'palaverlaw13.RedactApart'. -/
def redactApartUptoCard : Claim7 := { stood := { row := redactApartUptoRow, standIns := [], harness := (true, "e56e83b23acde339eab855442079cb519c1e1b34ea339206a23977b272f001a4"), looks := true }, kinds := [], alts := [], laidByText := true, laidKinds := [.data, .data, .data, .data, .data, .sentinel, .sentinel, .data, .data], laidTests := true, laidLooks := .later }
def RedactApartUptoCardSaid : Prop := Claim7.holds Tryd.pinned (.plain (OpenSpec.upto redactApartSpec)) redactApartUptoCard

/-- THE SECOND FORM's CARD OF 'palaverlaw12.EventTells'. -/
def eventTellsUptoCard : Claim7 := { stood := { row := eventTellsUptoRow, standIns := [], harness := (true, "e56e83b23acde339eab855442079cb519c1e1b34ea339206a23977b272f001a4"), looks := true }, kinds := [], alts := [], laidByText := true, laidKinds := [.data, .data, .data, .sentinel, .sentinel, .data, .data], laidTests := true, laidLooks := .later }
def EventTellsUptoCardSaid : Prop := Claim7.holds Tryd.pinned (.plain (OpenSpec.upto eventTellsSpec)) eventTellsUptoCard

/-- THE SECOND FORM's CARD OF 'palaverlaw12.EventBack'. -/
def eventBackUptoCard : Claim7 := { stood := { row := eventBackUptoRow, standIns := [], harness := (true, "e56e83b23acde339eab855442079cb519c1e1b34ea339206a23977b272f001a4"), looks := true }, kinds := [], alts := [], laidByText := true, laidKinds := [.data, .data, .data, .sentinel, .sentinel, .data, .data], laidTests := true, laidLooks := .later }
def EventBackUptoCardSaid : Prop := Claim7.holds Tryd.pinned (.plain (OpenSpec.upto eventBackSpec)) eventBackUptoCard

/-- THE SECOND FORM's CARD OF 'palaverlaw38.TimelinePicks'. -/
def timelinePicksUptoCard : Claim7 := { stood := { row := timelinePicksUptoRow, standIns := [], harness := (true, "e56e83b23acde339eab855442079cb519c1e1b34ea339206a23977b272f001a4"), looks := true }, kinds := [], alts := [], laidByText := true, laidKinds := [.data, .data, .data, .data, .data, .sentinel, .sentinel, .data, .data], laidTests := true, laidLooks := .later }
def TimelinePicksUptoCardSaid : Prop := Claim7.holds Tryd.pinned (.plain (OpenSpec.upto timelinePicksSpec)) timelinePicksUptoCard

/-- THE SECOND FORM's CARD OF 'palaverlaw38.TimelineLater'. -/
def timelineLaterUptoCard : Claim7 := { stood := { row := timelineLaterUptoRow, standIns := [], harness := (true, "e56e83b23acde339eab855442079cb519c1e1b34ea339206a23977b272f001a4"), looks := true }, kinds := [], alts := [], laidByText := true, laidKinds := [.data, .data, .data, .data, .data, .sentinel, .sentinel, .data, .data], laidTests := true, laidLooks := .later }
def TimelineLaterUptoCardSaid : Prop := Claim7.holds Tryd.pinned (.plain (OpenSpec.upto timelineLaterSpec)) timelineLaterUptoCard

/-- THE SECOND FORM's CARD OF 'palaverlaw38.TimelineText'. -/
def timelineTextUptoCard : Claim7 := { stood := { row := timelineTextUptoRow, standIns := [], harness := (true, "e56e83b23acde339eab855442079cb519c1e1b34ea339206a23977b272f001a4"), looks := true }, kinds := [], alts := [], laidByText := true, laidKinds := [.data, .data, .data, .data, .data, .sentinel, .sentinel, .data, .data], laidTests := true, laidLooks := .later }
def TimelineTextUptoCardSaid : Prop := Claim7.holds Tryd.pinned (.plain (OpenSpec.upto timelineTextSpec)) timelineTextUptoCard
end Rows
end Go.Proofs.YtfodloepkgkilaaDoor
