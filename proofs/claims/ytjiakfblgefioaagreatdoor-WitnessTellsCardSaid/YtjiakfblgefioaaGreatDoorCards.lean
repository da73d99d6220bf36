/-
  DERIVED. GIVEN WITH THE SEED: THE CARDS: each row of YtjiakfblgefioaaGreatDoorRows.lean that lists a variable, with what it lists TIED to the program's text (the seventh form; the later family's looks); each row that meets fmt, with fmt's text TOLD by the authors' own Lean function (tested against real Go, not proved from fmt's source: count such statements apart). THE CARD IS WHAT COUNTS. Prove the row's statement (the work); the ties are given (YtjiakfblgefioaaGreatDoorTie.lean); close each card by the builder's one call (the guide's Derived/Test/ToyasCard.lean, 'card_holds'). Laid BY PROGRAM, IN A SANDBOX (cutbox-door.mjs). By AI agents, Wed Nov 11 2026. No macro, syntax, notation, axiom, sorry.
-/
import Derived.Test.YtjiakfblgefioaaGreatDoorRows
import GoSem.ClaimSeven
namespace Go.Proofs.YtjiakfblgefioaaGreatDoor
namespace Rows

/-- THE TIED CARD OF 'palaverlaw35.WitnessTells'. -/
def witnessTellsCard : Claim7 := { stood := { row := witnessTellsRow, standIns := [], harness := (true, "19c65f134f4214a415eb4633434c7fb411b4b4d21edf4e7fb649429d9195bc86"), looks := true }, kinds := [], alts := [], laidByText := true, laidKinds := [.data, .data, .data, .sentinel, .sentinel, .data, .data], laidTests := true, laidLooks := .later }
def WitnessTellsCardSaid : Prop := Claim7.holds Tryz.pinned (.plain (OpenSpec.ofChange witnessTellsSpec)) witnessTellsCard

/-- THE TIED CARD OF 'palaverlaw38.TimelineOf'. -/
def timelineOfCard : Claim7 := { stood := { row := timelineOfRow, standIns := [], harness := (true, "19c65f134f4214a415eb4633434c7fb411b4b4d21edf4e7fb649429d9195bc86"), looks := true }, kinds := [], alts := [], laidByText := true, laidKinds := [.data, .data, .data, .data, .data, .sentinel, .sentinel, .data, .data], laidTests := true, laidLooks := .later }
def TimelineOfCardSaid : Prop := Claim7.holds Tryz.pinned (.plain (OpenSpec.ofChange timelineOfSpec)) timelineOfCard

/-- THE SECOND FORM's CARD OF 'palaverlaw35.WitnessTells'. -/
def witnessTellsUptoCard : Claim7 := { stood := { row := witnessTellsUptoRow, standIns := [], harness := (true, "19c65f134f4214a415eb4633434c7fb411b4b4d21edf4e7fb649429d9195bc86"), looks := true }, kinds := [], alts := [], laidByText := true, laidKinds := [.data, .data, .data, .sentinel, .sentinel, .data, .data], laidTests := true, laidLooks := .later }
def WitnessTellsUptoCardSaid : Prop := Claim7.holds Tryz.pinned (.plain (OpenSpec.upto witnessTellsSpec)) witnessTellsUptoCard

/-- THE SECOND FORM's CARD OF 'palaverlaw38.TimelineOf'. -/
def timelineOfUptoCard : Claim7 := { stood := { row := timelineOfUptoRow, standIns := [], harness := (true, "19c65f134f4214a415eb4633434c7fb411b4b4d21edf4e7fb649429d9195bc86"), looks := true }, kinds := [], alts := [], laidByText := true, laidKinds := [.data, .data, .data, .data, .data, .sentinel, .sentinel, .data, .data], laidTests := true, laidLooks := .later }
def TimelineOfUptoCardSaid : Prop := Claim7.holds Tryz.pinned (.plain (OpenSpec.upto timelineOfSpec)) timelineOfUptoCard
end Rows
end Go.Proofs.YtjiakfblgefioaaGreatDoor
