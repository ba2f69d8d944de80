/-
  DERIVED. GIVEN WITH THE SEED: THE CARDS: each row of YtmbidmlinaafnaaGreatDoorRows.lean that lists a variable, with what it lists TIED to the program's text (the seventh form; the later family's looks); each row that meets fmt, with fmt's text TOLD by the authors' own Lean function (tested against real Go, not proved from fmt's source: count such statements apart). THE CARD IS WHAT COUNTS. Prove the row's statement (the work); the ties are given (YtmbidmlinaafnaaGreatDoorTie.lean); close each card by the builder's one call (the guide's Derived/Test/ToyasCard.lean, 'card_holds'). Laid BY PROGRAM, IN A SANDBOX (cutbox-door.mjs). By AI agents, Wed Nov 11 2026. No macro, syntax, notation, axiom, sorry.
-/
import Derived.Test.YtmbidmlinaafnaaGreatDoorRows
import GoSem.ClaimSeven
namespace Go.Proofs.YtmbidmlinaafnaaGreatDoor
namespace Rows

/-- THE TIED CARD OF 'caravellaw10.ProtectNobody'. -/
def protectNobodyCard : Claim7 := { stood := { row := protectNobodyRow, standIns := [], harness := (true, "6736c2e05938993ae61abd747af0acfd445697251d9cfe517e02b6c6884be1ad"), looks := true }, kinds := [], alts := [], laidByText := true, laidKinds := [.data, .handle, .data, .pinned], laidTests := true, laidLooks := .later }
def ProtectNobodyCardSaid : Prop := Claim7.holds Tryz.pinned (.plain (OpenSpec.ofChange protectNobodySpec)) protectNobodyCard

/-- THE TIED CARD OF 'caravellaw21.StreamsNobody'. -/
def streamsNobodyCard : Claim7 := { stood := { row := streamsNobodyRow, standIns := [], harness := (true, "6736c2e05938993ae61abd747af0acfd445697251d9cfe517e02b6c6884be1ad"), looks := true }, kinds := [], alts := [], laidByText := true, laidKinds := [.data], laidTests := true, laidLooks := .later }
def StreamsNobodyCardSaid : Prop := Claim7.holds Tryz.pinned (.plain (OpenSpec.ofChange streamsNobodySpec)) streamsNobodyCard

/-- THE SECOND FORM's CARD OF 'caravellaw10.ProtectNobody'. -/
def protectNobodyUptoCard : Claim7 := { stood := { row := protectNobodyUptoRow, standIns := [], harness := (true, "6736c2e05938993ae61abd747af0acfd445697251d9cfe517e02b6c6884be1ad"), looks := true }, kinds := [], alts := [], laidByText := true, laidKinds := [.data, .handle, .data, .pinned], laidTests := true, laidLooks := .later }
def ProtectNobodyUptoCardSaid : Prop := Claim7.holds Tryz.pinned (.plain (OpenSpec.upto protectNobodySpec)) protectNobodyUptoCard

/-- THE SECOND FORM's CARD OF 'caravellaw21.StreamsNobody'. -/
def streamsNobodyUptoCard : Claim7 := { stood := { row := streamsNobodyUptoRow, standIns := [], harness := (true, "6736c2e05938993ae61abd747af0acfd445697251d9cfe517e02b6c6884be1ad"), looks := true }, kinds := [], alts := [], laidByText := true, laidKinds := [.data], laidTests := true, laidLooks := .later }
def StreamsNobodyUptoCardSaid : Prop := Claim7.holds Tryz.pinned (.plain (OpenSpec.upto streamsNobodySpec)) streamsNobodyUptoCard
end Rows
end Go.Proofs.YtmbidmlinaafnaaGreatDoor
