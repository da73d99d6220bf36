/-
  DERIVED. GIVEN WITH THE SEED: THE CARDS: each row of YtdmonfimdinkeaaGreatDoorRows.lean that lists a variable, with what it lists TIED to the program's text (the seventh form; the later family's looks); each row that meets fmt, with fmt's text TOLD by the authors' own Lean function (tested against real Go, not proved from fmt's source: count such statements apart). THE CARD IS WHAT COUNTS. Prove the row's statement (the work); the ties are given (YtdmonfimdinkeaaGreatDoorTie.lean); close each card by the builder's one call (the guide's Derived/Test/ToyasCard.lean, 'card_holds'). Laid BY PROGRAM, IN A SANDBOX (cutbox-door.mjs). By AI agents, Wed Nov 11 2026. No macro, syntax, notation, axiom, sorry.
-/
import Derived.Test.YtdmonfimdinkeaaGreatDoorRows
import GoSem.ClaimSeven
namespace Go.Proofs.YtdmonfimdinkeaaGreatDoor
namespace Rows

/-- THE TIED CARD OF 'palaverlaw21.HeadTells'. -/
def headTellsCard : Claim7 := { stood := { row := headTellsRow, standIns := [], harness := (true, "fbf429f3a19f87db7e7584bde323b37db458715a0e09ea850ec151d87be4aeaa"), looks := true }, kinds := [], alts := [], laidByText := true, laidKinds := [.data, .data, .data, .data, .data, .sentinel, .sentinel, .data], laidTests := true, laidLooks := .later }
def HeadTellsCardSaid : Prop := Claim7.holds Tryz.pinned (.plain (OpenSpec.ofChange headTellsSpec)) headTellsCard

/-- THE TIED CARD OF 'palaverlaw24.HandoverTells'. -/
def handoverTellsCard : Claim7 := { stood := { row := handoverTellsRow, standIns := [], harness := (true, "fbf429f3a19f87db7e7584bde323b37db458715a0e09ea850ec151d87be4aeaa"), looks := true }, kinds := [], alts := [], laidByText := true, laidKinds := [.data, .data, .data, .data, .data, .sentinel, .sentinel, .data, .data], laidTests := true, laidLooks := .later }
def HandoverTellsCardSaid : Prop := Claim7.holds Tryz.pinned (.plain (OpenSpec.ofChange handoverTellsSpec)) handoverTellsCard

/-- THE TIED CARD OF 'palaverlaw24.HandoverFits'. -/
def handoverFitsCard : Claim7 := { stood := { row := handoverFitsRow, standIns := [], harness := (true, "fbf429f3a19f87db7e7584bde323b37db458715a0e09ea850ec151d87be4aeaa"), looks := true }, kinds := [], alts := [], laidByText := true, laidKinds := [.data, .data, .data, .data, .data, .sentinel, .sentinel, .data, .data], laidTests := true, laidLooks := .later }
def HandoverFitsCardSaid : Prop := Claim7.holds Tryz.pinned (.plain (OpenSpec.ofChange handoverFitsSpec)) handoverFitsCard

/-- THE TIED CARD OF 'palaverlaw21.HeadBack'. -/
def headBackCard : Claim7 := { stood := { row := headBackRow, standIns := [], harness := (true, "fbf429f3a19f87db7e7584bde323b37db458715a0e09ea850ec151d87be4aeaa"), looks := true }, kinds := [], alts := [], laidByText := true, laidKinds := [.data, .data, .data, .data, .data, .sentinel, .sentinel, .data], laidTests := true, laidLooks := .later }
def HeadBackCardSaid : Prop := Claim7.holds Tryz.pinned (.plain (OpenSpec.ofChange headBackSpec)) headBackCard

/-- THE SECOND FORM's CARD OF 'palaverlaw21.HeadTells'. -/
def headTellsUptoCard : Claim7 := { stood := { row := headTellsUptoRow, standIns := [], harness := (true, "fbf429f3a19f87db7e7584bde323b37db458715a0e09ea850ec151d87be4aeaa"), looks := true }, kinds := [], alts := [], laidByText := true, laidKinds := [.data, .data, .data, .data, .data, .sentinel, .sentinel, .data], laidTests := true, laidLooks := .later }
def HeadTellsUptoCardSaid : Prop := Claim7.holds Tryz.pinned (.plain (OpenSpec.upto headTellsSpec)) headTellsUptoCard

/-- THE SECOND FORM's CARD OF 'palaverlaw24.HandoverTells'. -/
def handoverTellsUptoCard : Claim7 := { stood := { row := handoverTellsUptoRow, standIns := [], harness := (true, "fbf429f3a19f87db7e7584bde323b37db458715a0e09ea850ec151d87be4aeaa"), looks := true }, kinds := [], alts := [], laidByText := true, laidKinds := [.data, .data, .data, .data, .data, .sentinel, .sentinel, .data, .data], laidTests := true, laidLooks := .later }
def HandoverTellsUptoCardSaid : Prop := Claim7.holds Tryz.pinned (.plain (OpenSpec.upto handoverTellsSpec)) handoverTellsUptoCard

/-- THE SECOND FORM's CARD OF 'palaverlaw24.HandoverFits'. -/
def handoverFitsUptoCard : Claim7 := { stood := { row := handoverFitsUptoRow, standIns := [], harness := (true, "fbf429f3a19f87db7e7584bde323b37db458715a0e09ea850ec151d87be4aeaa"), looks := true }, kinds := [], alts := [], laidByText := true, laidKinds := [.data, .data, .data, .data, .data, .sentinel, .sentinel, .data, .data], laidTests := true, laidLooks := .later }
def HandoverFitsUptoCardSaid : Prop := Claim7.holds Tryz.pinned (.plain (OpenSpec.upto handoverFitsSpec)) handoverFitsUptoCard

/-- THE SECOND FORM's CARD OF 'palaverlaw21.HeadBack'. -/
def headBackUptoCard : Claim7 := { stood := { row := headBackUptoRow, standIns := [], harness := (true, "fbf429f3a19f87db7e7584bde323b37db458715a0e09ea850ec151d87be4aeaa"), looks := true }, kinds := [], alts := [], laidByText := true, laidKinds := [.data, .data, .data, .data, .data, .sentinel, .sentinel, .data], laidTests := true, laidLooks := .later }
def HeadBackUptoCardSaid : Prop := Claim7.holds Tryz.pinned (.plain (OpenSpec.upto headBackSpec)) headBackUptoCard
end Rows
end Go.Proofs.YtdmonfimdinkeaaGreatDoor
