/-
  DERIVED. GIVEN WITH THE SEED: THE CARDS: each row of YtceiajepcokacaaGreatDoorRows.lean that lists a variable, with what it lists TIED to the program's text (the seventh form; the later family's looks); each row that meets fmt, with fmt's text TOLD by the authors' own Lean function (tested against real Go, not proved from fmt's source: count such statements apart). THE CARD IS WHAT COUNTS. Prove the row's statement (the work); the ties are given (YtceiajepcokacaaGreatDoorTie.lean); close each card by the builder's one call (the guide's Derived/Test/ToyasCard.lean, 'card_holds'). Laid BY PROGRAM, IN A SANDBOX (cutbox-door.mjs). By AI agents, Wed Nov 11 2026. No macro, syntax, notation, axiom, sorry.
-/
import Derived.Test.YtceiajepcokacaaGreatDoorRows
import GoSem.ClaimSeven
namespace Go.Proofs.YtceiajepcokacaaGreatDoor
namespace Rows

/-- THE TIED CARD OF 'palaverlaw26.SeenHears'. -/
def seenHearsCard : Claim7 := { stood := { row := seenHearsRow, standIns := [], harness := (true, "0f172051c555f4e9c98ecd3be36891d69552d0152fa5990b41a3606635fd5c30"), looks := true }, kinds := [], alts := [], laidByText := true, laidKinds := [.data, .data, .data, .data, .data, .sentinel, .sentinel, .data], laidTests := true, laidLooks := .later }
def SeenHearsCardSaid : Prop := Claim7.holds Tryz.pinned (.plain (OpenSpec.ofChange seenHearsSpec)) seenHearsCard

/-- THE TIED CARD OF 'palaverlaw26.SeenFinds'. -/
def seenFindsCard : Claim7 := { stood := { row := seenFindsRow, standIns := [], harness := (true, "0f172051c555f4e9c98ecd3be36891d69552d0152fa5990b41a3606635fd5c30"), looks := true }, kinds := [], alts := [], laidByText := true, laidKinds := [.data, .data, .data, .data, .data, .sentinel, .sentinel, .data], laidTests := true, laidLooks := .later }
def SeenFindsCardSaid : Prop := Claim7.holds Tryz.pinned (.plain (OpenSpec.ofChange seenFindsSpec)) seenFindsCard

/-- THE SECOND FORM's CARD OF 'palaverlaw26.SeenHears'. -/
def seenHearsUptoCard : Claim7 := { stood := { row := seenHearsUptoRow, standIns := [], harness := (true, "0f172051c555f4e9c98ecd3be36891d69552d0152fa5990b41a3606635fd5c30"), looks := true }, kinds := [], alts := [], laidByText := true, laidKinds := [.data, .data, .data, .data, .data, .sentinel, .sentinel, .data], laidTests := true, laidLooks := .later }
def SeenHearsUptoCardSaid : Prop := Claim7.holds Tryz.pinned (.plain (OpenSpec.upto seenHearsSpec)) seenHearsUptoCard

/-- THE SECOND FORM's CARD OF 'palaverlaw26.SeenFinds'. -/
def seenFindsUptoCard : Claim7 := { stood := { row := seenFindsUptoRow, standIns := [], harness := (true, "0f172051c555f4e9c98ecd3be36891d69552d0152fa5990b41a3606635fd5c30"), looks := true }, kinds := [], alts := [], laidByText := true, laidKinds := [.data, .data, .data, .data, .data, .sentinel, .sentinel, .data], laidTests := true, laidLooks := .later }
def SeenFindsUptoCardSaid : Prop := Claim7.holds Tryz.pinned (.plain (OpenSpec.upto seenFindsSpec)) seenFindsUptoCard
end Rows
end Go.Proofs.YtceiajepcokacaaGreatDoor
