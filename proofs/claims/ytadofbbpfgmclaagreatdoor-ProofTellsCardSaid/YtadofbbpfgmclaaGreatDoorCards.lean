/-
  DERIVED. GIVEN WITH THE SEED: THE CARDS: each row of YtadofbbpfgmclaaGreatDoorRows.lean that lists a variable, with what it lists TIED to the program's text (the seventh form; the later family's looks); each row that meets fmt, with fmt's text TOLD by the authors' own Lean function (tested against real Go, not proved from fmt's source: count such statements apart). THE CARD IS WHAT COUNTS. Prove the row's statement (the work); the ties are given (YtadofbbpfgmclaaGreatDoorTie.lean); close each card by the builder's one call (the guide's Derived/Test/ToyasCard.lean, 'card_holds'). Laid BY PROGRAM, IN A SANDBOX (cutbox-door.mjs). By AI agents, Wed Nov 11 2026. No macro, syntax, notation, axiom, sorry.
-/
import Derived.Test.YtadofbbpfgmclaaGreatDoorRows
import GoSem.ClaimSeven
namespace Go.Proofs.YtadofbbpfgmclaaGreatDoor
namespace Rows

/-- THE TIED CARD OF 'palaverlaw22.ProofTells'. -/
def proofTellsCard : Claim7 := { stood := { row := proofTellsRow, standIns := [], harness := (true, "ce10c90482c74e9347a32853ec891472b72c93f2b74009da0bf5ab1a87d8b5ca"), looks := true }, kinds := [], alts := [], laidByText := true, laidKinds := [.data, .data, .data, .data, .data, .sentinel, .sentinel, .data], laidTests := true, laidLooks := .later }
def ProofTellsCardSaid : Prop := Claim7.holds Tryz.pinned (.plain (OpenSpec.ofChange proofTellsSpec)) proofTellsCard

/-- THE TIED CARD OF 'palaverlaw22.ProofBack'. -/
def proofBackCard : Claim7 := { stood := { row := proofBackRow, standIns := [], harness := (true, "ce10c90482c74e9347a32853ec891472b72c93f2b74009da0bf5ab1a87d8b5ca"), looks := true }, kinds := [], alts := [], laidByText := true, laidKinds := [.data, .data, .data, .data, .data, .sentinel, .sentinel, .data], laidTests := true, laidLooks := .later }
def ProofBackCardSaid : Prop := Claim7.holds Tryz.pinned (.plain (OpenSpec.ofChange proofBackSpec)) proofBackCard

/-- THE TIED CARD OF 'palaverlaw22.ProofHonest'. -/
def proofHonestCard : Claim7 := { stood := { row := proofHonestRow, standIns := [], harness := (true, "ce10c90482c74e9347a32853ec891472b72c93f2b74009da0bf5ab1a87d8b5ca"), looks := true }, kinds := [], alts := [], laidByText := true, laidKinds := [.data, .data, .data, .data, .data, .sentinel, .sentinel, .data], laidTests := true, laidLooks := .later }
def ProofHonestCardSaid : Prop := Claim7.holds Tryz.pinned (.plain (OpenSpec.ofChange proofHonestSpec)) proofHonestCard

/-- THE SECOND FORM's CARD OF 'palaverlaw22.ProofTells'. -/
def proofTellsUptoCard : Claim7 := { stood := { row := proofTellsUptoRow, standIns := [], harness := (true, "ce10c90482c74e9347a32853ec891472b72c93f2b74009da0bf5ab1a87d8b5ca"), looks := true }, kinds := [], alts := [], laidByText := true, laidKinds := [.data, .data, .data, .data, .data, .sentinel, .sentinel, .data], laidTests := true, laidLooks := .later }
def ProofTellsUptoCardSaid : Prop := Claim7.holds Tryz.pinned (.plain (OpenSpec.upto proofTellsSpec)) proofTellsUptoCard

/-- THE SECOND FORM's CARD OF 'palaverlaw22.ProofBack'. -/
def proofBackUptoCard : Claim7 := { stood := { row := proofBackUptoRow, standIns := [], harness := (true, "ce10c90482c74e9347a32853ec891472b72c93f2b74009da0bf5ab1a87d8b5ca"), looks := true }, kinds := [], alts := [], laidByText := true, laidKinds := [.data, .data, .data, .data, .data, .sentinel, .sentinel, .data], laidTests := true, laidLooks := .later }
def ProofBackUptoCardSaid : Prop := Claim7.holds Tryz.pinned (.plain (OpenSpec.upto proofBackSpec)) proofBackUptoCard

/-- THE SECOND FORM's CARD OF 'palaverlaw22.ProofHonest'. -/
def proofHonestUptoCard : Claim7 := { stood := { row := proofHonestUptoRow, standIns := [], harness := (true, "ce10c90482c74e9347a32853ec891472b72c93f2b74009da0bf5ab1a87d8b5ca"), looks := true }, kinds := [], alts := [], laidByText := true, laidKinds := [.data, .data, .data, .data, .data, .sentinel, .sentinel, .data], laidTests := true, laidLooks := .later }
def ProofHonestUptoCardSaid : Prop := Claim7.holds Tryz.pinned (.plain (OpenSpec.upto proofHonestSpec)) proofHonestUptoCard
end Rows
end Go.Proofs.YtadofbbpfgmclaaGreatDoor
