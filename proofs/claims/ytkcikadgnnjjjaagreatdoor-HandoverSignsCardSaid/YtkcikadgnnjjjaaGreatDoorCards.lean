/-
  DERIVED. GIVEN WITH THE SEED: THE CARDS: each row of YtkcikadgnnjjjaaGreatDoorRows.lean that lists a variable, with what it lists TIED to the program's text (the seventh form; the later family's looks); each row that meets fmt, with fmt's text TOLD by the authors' own Lean function (tested against real Go, not proved from fmt's source: count such statements apart). THE CARD IS WHAT COUNTS. Prove the row's statement (the work); the ties are given (YtkcikadgnnjjjaaGreatDoorTie.lean); close each card by the builder's one call (the guide's Derived/Test/ToyasCard.lean, 'card_holds'). Laid BY PROGRAM, IN A SANDBOX (cutbox-door.mjs). By AI agents, Wed Nov 11 2026. No macro, syntax, notation, axiom, sorry.
-/
import Derived.Test.YtkcikadgnnjjjaaGreatDoorRows
import GoSem.ClaimSeven
namespace Go.Proofs.YtkcikadgnnjjjaaGreatDoor
namespace Rows

/-- THE TIED CARD OF 'palaverlaw19.EntrySigns'. -/
def entrySignsCard : Claim7 := { stood := { row := entrySignsRow, standIns := [], harness := (true, "ec00564ccc8a847b8d157a5666eee749c36e7e3eda712c9dcc2543094e75b379"), looks := true }, kinds := [], alts := [], laidByText := true, laidKinds := [.data, .data, .data, .data, .data, .sentinel, .sentinel, .data], laidTests := true, laidLooks := .later }
def EntrySignsCardSaid : Prop := Claim7.holds Tryz.pinned (.plain (OpenSpec.ofChange entrySignsSpec)) entrySignsCard

/-- THE TIED CARD OF 'palaverlaw21.HeadSigns'. -/
def headSignsCard : Claim7 := { stood := { row := headSignsRow, standIns := [], harness := (true, "ec00564ccc8a847b8d157a5666eee749c36e7e3eda712c9dcc2543094e75b379"), looks := true }, kinds := [], alts := [], laidByText := true, laidKinds := [.data, .data, .data, .data, .data, .sentinel, .sentinel, .data], laidTests := true, laidLooks := .later }
def HeadSignsCardSaid : Prop := Claim7.holds Tryz.pinned (.plain (OpenSpec.ofChange headSignsSpec)) headSignsCard

/-- THE TIED CARD OF 'palaverlaw24.HandoverSigns'. -/
def handoverSignsCard : Claim7 := { stood := { row := handoverSignsRow, standIns := [], harness := (true, "ec00564ccc8a847b8d157a5666eee749c36e7e3eda712c9dcc2543094e75b379"), looks := true }, kinds := [], alts := [], laidByText := true, laidKinds := [.data, .data, .data, .data, .data, .sentinel, .sentinel, .data, .data], laidTests := true, laidLooks := .later }
def HandoverSignsCardSaid : Prop := Claim7.holds Tryz.pinned (.plain (OpenSpec.ofChange handoverSignsSpec)) handoverSignsCard

/-- THE SECOND FORM's CARD OF 'palaverlaw19.EntrySigns'. -/
def entrySignsUptoCard : Claim7 := { stood := { row := entrySignsUptoRow, standIns := [], harness := (true, "ec00564ccc8a847b8d157a5666eee749c36e7e3eda712c9dcc2543094e75b379"), looks := true }, kinds := [], alts := [], laidByText := true, laidKinds := [.data, .data, .data, .data, .data, .sentinel, .sentinel, .data], laidTests := true, laidLooks := .later }
def EntrySignsUptoCardSaid : Prop := Claim7.holds Tryz.pinned (.plain (OpenSpec.upto entrySignsSpec)) entrySignsUptoCard

/-- THE SECOND FORM's CARD OF 'palaverlaw21.HeadSigns'. -/
def headSignsUptoCard : Claim7 := { stood := { row := headSignsUptoRow, standIns := [], harness := (true, "ec00564ccc8a847b8d157a5666eee749c36e7e3eda712c9dcc2543094e75b379"), looks := true }, kinds := [], alts := [], laidByText := true, laidKinds := [.data, .data, .data, .data, .data, .sentinel, .sentinel, .data], laidTests := true, laidLooks := .later }
def HeadSignsUptoCardSaid : Prop := Claim7.holds Tryz.pinned (.plain (OpenSpec.upto headSignsSpec)) headSignsUptoCard

/-- THE SECOND FORM's CARD OF 'palaverlaw24.HandoverSigns'. -/
def handoverSignsUptoCard : Claim7 := { stood := { row := handoverSignsUptoRow, standIns := [], harness := (true, "ec00564ccc8a847b8d157a5666eee749c36e7e3eda712c9dcc2543094e75b379"), looks := true }, kinds := [], alts := [], laidByText := true, laidKinds := [.data, .data, .data, .data, .data, .sentinel, .sentinel, .data, .data], laidTests := true, laidLooks := .later }
def HandoverSignsUptoCardSaid : Prop := Claim7.holds Tryz.pinned (.plain (OpenSpec.upto handoverSignsSpec)) handoverSignsUptoCard
end Rows
end Go.Proofs.YtkcikadgnnjjjaaGreatDoor
