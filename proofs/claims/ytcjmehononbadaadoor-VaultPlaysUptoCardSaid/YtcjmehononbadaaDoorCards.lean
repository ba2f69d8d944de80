/-
  DERIVED. GIVEN WITH THE SEED: THE CARDS: each row of YtcjmehononbadaaDoorRows.lean that lists a variable, with what it lists TIED to the program's text (the seventh form; the later family's looks); each row that meets fmt, with fmt's text TOLD by the authors' own Lean function (tested against real Go, not proved from fmt's source: count such statements apart). THE CARD IS WHAT COUNTS. Prove the row's statement (the work); the ties are given (YtcjmehononbadaaDoorTie.lean); close each card by the builder's one call (the guide's Derived/Test/ToyasCard.lean, 'card_holds'). Laid BY PROGRAM, IN A SANDBOX (cutbox-door.mjs). By AI agents, Wed Nov 11 2026. No macro, syntax, notation, axiom, sorry.
-/
import Derived.Test.YtcjmehononbadaaDoorRows
import GoSem.ClaimSeven
namespace Go.Proofs.YtcjmehononbadaaDoor
namespace Rows

/-- THE TIED CARD OF 'caravellaw09.VaultSeals'. -/
def vaultSealsCard : Claim7 := { stood := { row := vaultSealsRow, standIns := [], harness := (true, "e029dc558d6a9ecb56d421134108a247b70369cae1f048ec1623968793e306b8"), looks := false }, kinds := [], alts := [], laidByText := true, laidKinds := [.data, .pinned], laidTests := true, laidLooks := .later }
def VaultSealsCardSaid : Prop := Claim7.holds Tryd.pinned (.plain (OpenSpec.ofChange vaultSealsSpec)) vaultSealsCard

/-- THE TIED CARD OF 'caravellaw09.VaultNobody'. -/
def vaultNobodyCard : Claim7 := { stood := { row := vaultNobodyRow, standIns := [], harness := (true, "e029dc558d6a9ecb56d421134108a247b70369cae1f048ec1623968793e306b8"), looks := false }, kinds := [], alts := [], laidByText := true, laidKinds := [.data, .pinned], laidTests := true, laidLooks := .later }
def VaultNobodyCardSaid : Prop := Claim7.holds Tryd.pinned (.plain (OpenSpec.ofChange vaultNobodySpec)) vaultNobodyCard

/-- THE TIED CARD OF 'caravellaw09.VaultPlays'. -/
def vaultPlaysCard : Claim7 := { stood := { row := vaultPlaysRow, standIns := [], harness := (true, "e029dc558d6a9ecb56d421134108a247b70369cae1f048ec1623968793e306b8"), looks := false }, kinds := [], alts := [], laidByText := true, laidKinds := [.data, .pinned], laidTests := true, laidLooks := .later }
def VaultPlaysCardSaid : Prop := Claim7.holds Tryd.pinned (.plain (OpenSpec.ofChange vaultPlaysSpec)) vaultPlaysCard

/-- THE SECOND FORM's CARD OF 'caravellaw09.VaultSeals'. -/
def vaultSealsUptoCard : Claim7 := { stood := { row := vaultSealsUptoRow, standIns := [], harness := (true, "e029dc558d6a9ecb56d421134108a247b70369cae1f048ec1623968793e306b8"), looks := false }, kinds := [], alts := [], laidByText := true, laidKinds := [.data, .pinned], laidTests := true, laidLooks := .later }
def VaultSealsUptoCardSaid : Prop := Claim7.holds Tryd.pinned (.plain (OpenSpec.upto vaultSealsSpec)) vaultSealsUptoCard

/-- THE SECOND FORM's CARD OF 'caravellaw09.VaultNobody'. -/
def vaultNobodyUptoCard : Claim7 := { stood := { row := vaultNobodyUptoRow, standIns := [], harness := (true, "e029dc558d6a9ecb56d421134108a247b70369cae1f048ec1623968793e306b8"), looks := false }, kinds := [], alts := [], laidByText := true, laidKinds := [.data, .pinned], laidTests := true, laidLooks := .later }
def VaultNobodyUptoCardSaid : Prop := Claim7.holds Tryd.pinned (.plain (OpenSpec.upto vaultNobodySpec)) vaultNobodyUptoCard

/-- THE SECOND FORM's CARD OF 'caravellaw09.VaultPlays'. -/
def vaultPlaysUptoCard : Claim7 := { stood := { row := vaultPlaysUptoRow, standIns := [], harness := (true, "e029dc558d6a9ecb56d421134108a247b70369cae1f048ec1623968793e306b8"), looks := false }, kinds := [], alts := [], laidByText := true, laidKinds := [.data, .pinned], laidTests := true, laidLooks := .later }
def VaultPlaysUptoCardSaid : Prop := Claim7.holds Tryd.pinned (.plain (OpenSpec.upto vaultPlaysSpec)) vaultPlaysUptoCard
end Rows
end Go.Proofs.YtcjmehononbadaaDoor
