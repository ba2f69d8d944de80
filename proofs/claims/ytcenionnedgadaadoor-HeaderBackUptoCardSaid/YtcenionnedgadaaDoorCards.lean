/-
  DERIVED. GIVEN WITH THE SEED: THE CARDS: each row of YtcenionnedgadaaDoorRows.lean that lists a variable, with what it lists TIED to the program's text (the seventh form; the later family's looks); each row that meets fmt, with fmt's text TOLD by the authors' own Lean function (tested against real Go, not proved from fmt's source: count such statements apart). THE CARD IS WHAT COUNTS. Prove the row's statement (the work); the ties are given (YtcenionnedgadaaDoorTie.lean); close each card by the builder's one call (the guide's Derived/Test/ToyasCard.lean, 'card_holds'). Laid BY PROGRAM, IN A SANDBOX (cutbox-door.mjs). By AI agents, Wed Nov 11 2026. No macro, syntax, notation, axiom, sorry.
-/
import Derived.Test.YtcenionnedgadaaDoorRows
import GoSem.ClaimSeven
namespace Go.Proofs.YtcenionnedgadaaDoor
namespace Rows

/-- THE TIED CARD OF 'caravellaw02.HeaderOthers'. -/
def headerOthersCard : Claim7 := { stood := { row := headerOthersRow, standIns := [], harness := (true, "086f07c0a02a0a3d95bed23c96cf9b92f887de1b99e0da39e35cb16fd46b16b2"), looks := false }, kinds := [], alts := [], laidByText := true, laidKinds := [.data], laidTests := true, laidLooks := .later }
def HeaderOthersCardSaid : Prop := Claim7.holds Tryd.pinned (.plain (OpenSpec.ofChange headerOthersSpec)) headerOthersCard

/-- THE TIED CARD OF 'caravellaw02.HeaderSplits'. -/
def headerSplitsCard : Claim7 := { stood := { row := headerSplitsRow, standIns := [], harness := (true, "086f07c0a02a0a3d95bed23c96cf9b92f887de1b99e0da39e35cb16fd46b16b2"), looks := false }, kinds := [], alts := [], laidByText := true, laidKinds := [.data], laidTests := true, laidLooks := .later }
def HeaderSplitsCardSaid : Prop := Claim7.holds Tryd.pinned (.plain (OpenSpec.ofChange headerSplitsSpec)) headerSplitsCard

/-- THE TIED CARD OF 'caravellaw02.HeaderWhole'. -/
def headerWholeCard : Claim7 := { stood := { row := headerWholeRow, standIns := [], harness := (true, "086f07c0a02a0a3d95bed23c96cf9b92f887de1b99e0da39e35cb16fd46b16b2"), looks := false }, kinds := [], alts := [], laidByText := true, laidKinds := [.data], laidTests := true, laidLooks := .later }
def HeaderWholeCardSaid : Prop := Claim7.holds Tryd.pinned (.plain (OpenSpec.ofChange headerWholeSpec)) headerWholeCard

/-- THE TIED CARD OF 'caravellaw02.HeaderPuts'. -/
def headerPutsCard : Claim7 := { stood := { row := headerPutsRow, standIns := [], harness := (true, "086f07c0a02a0a3d95bed23c96cf9b92f887de1b99e0da39e35cb16fd46b16b2"), looks := false }, kinds := [], alts := [], laidByText := true, laidKinds := [.data], laidTests := true, laidLooks := .later }
def HeaderPutsCardSaid : Prop := Claim7.holds Tryd.pinned (.plain (OpenSpec.ofChange headerPutsSpec)) headerPutsCard

/-- THE TIED CARD OF 'caravellaw02.HeaderBack'. -/
def headerBackCard : Claim7 := { stood := { row := headerBackRow, standIns := [], harness := (true, "086f07c0a02a0a3d95bed23c96cf9b92f887de1b99e0da39e35cb16fd46b16b2"), looks := false }, kinds := [], alts := [], laidByText := true, laidKinds := [.data], laidTests := true, laidLooks := .later }
def HeaderBackCardSaid : Prop := Claim7.holds Tryd.pinned (.plain (OpenSpec.ofChange headerBackSpec)) headerBackCard

/-- THE SECOND FORM's CARD OF 'caravellaw02.HeaderOthers'. -/
def headerOthersUptoCard : Claim7 := { stood := { row := headerOthersUptoRow, standIns := [], harness := (true, "086f07c0a02a0a3d95bed23c96cf9b92f887de1b99e0da39e35cb16fd46b16b2"), looks := false }, kinds := [], alts := [], laidByText := true, laidKinds := [.data], laidTests := true, laidLooks := .later }
def HeaderOthersUptoCardSaid : Prop := Claim7.holds Tryd.pinned (.plain (OpenSpec.upto headerOthersSpec)) headerOthersUptoCard

/-- THE SECOND FORM's CARD OF 'caravellaw02.HeaderSplits'. -/
def headerSplitsUptoCard : Claim7 := { stood := { row := headerSplitsUptoRow, standIns := [], harness := (true, "086f07c0a02a0a3d95bed23c96cf9b92f887de1b99e0da39e35cb16fd46b16b2"), looks := false }, kinds := [], alts := [], laidByText := true, laidKinds := [.data], laidTests := true, laidLooks := .later }
def HeaderSplitsUptoCardSaid : Prop := Claim7.holds Tryd.pinned (.plain (OpenSpec.upto headerSplitsSpec)) headerSplitsUptoCard

/-- THE SECOND FORM's CARD OF 'caravellaw02.HeaderWhole'. -/
def headerWholeUptoCard : Claim7 := { stood := { row := headerWholeUptoRow, standIns := [], harness := (true, "086f07c0a02a0a3d95bed23c96cf9b92f887de1b99e0da39e35cb16fd46b16b2"), looks := false }, kinds := [], alts := [], laidByText := true, laidKinds := [.data], laidTests := true, laidLooks := .later }
def HeaderWholeUptoCardSaid : Prop := Claim7.holds Tryd.pinned (.plain (OpenSpec.upto headerWholeSpec)) headerWholeUptoCard

/-- THE SECOND FORM's CARD OF 'caravellaw02.HeaderPuts'. -/
def headerPutsUptoCard : Claim7 := { stood := { row := headerPutsUptoRow, standIns := [], harness := (true, "086f07c0a02a0a3d95bed23c96cf9b92f887de1b99e0da39e35cb16fd46b16b2"), looks := false }, kinds := [], alts := [], laidByText := true, laidKinds := [.data], laidTests := true, laidLooks := .later }
def HeaderPutsUptoCardSaid : Prop := Claim7.holds Tryd.pinned (.plain (OpenSpec.upto headerPutsSpec)) headerPutsUptoCard

/-- THE SECOND FORM's CARD OF 'caravellaw02.HeaderBack'. -/
def headerBackUptoCard : Claim7 := { stood := { row := headerBackUptoRow, standIns := [], harness := (true, "086f07c0a02a0a3d95bed23c96cf9b92f887de1b99e0da39e35cb16fd46b16b2"), looks := false }, kinds := [], alts := [], laidByText := true, laidKinds := [.data], laidTests := true, laidLooks := .later }
def HeaderBackUptoCardSaid : Prop := Claim7.holds Tryd.pinned (.plain (OpenSpec.upto headerBackSpec)) headerBackUptoCard
end Rows
end Go.Proofs.YtcenionnedgadaaDoor
