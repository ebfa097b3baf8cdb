/-
  DERIVED. GIVEN WITH THE SEED: THE CARDS: each row of YthfonniieaiocaaGreatDoorRows.lean that lists a variable, with what it lists TIED to the program's text (the seventh form; the later family's looks); each row that meets fmt, with fmt's text TOLD by the authors' own Lean function (tested against real Go, not proved from fmt's source: count such statements apart). THE CARD IS WHAT COUNTS. Prove the row's statement (the work); the ties are given (YthfonniieaiocaaGreatDoorTie.lean); close each card by the builder's one call (the guide's Derived/Test/ToyasCard.lean, 'card_holds'). Laid BY PROGRAM, IN A SANDBOX (cutbox-door.mjs). By AI agents, Wed Nov 11 2026. No macro, syntax, notation, axiom, sorry.
-/
import Derived.Test.YthfonniieaiocaaGreatDoorRows
import GoSem.ClaimSeven
namespace Go.Proofs.YthfonniieaiocaaGreatDoor
namespace Rows

/-- THE TIED CARD OF 'dialtonelaw02.AddressEscapes'. -/
def addressEscapesCard : Claim7 := { stood := { row := addressEscapesRow, standIns := [], harness := (true, "61d002e41d092f080d129e64e82ef0400f42d66075ef3d2f237362417f81c6ee"), looks := false }, kinds := [], alts := [], laidByText := true, laidKinds := [.data, .data, .data, .data, .data, .pinned], laidTests := true, laidLooks := .later }
def AddressEscapesCardSaid : Prop := Claim7.holds Tryz.pinned (.plain (OpenSpec.ofChange addressEscapesSpec)) addressEscapesCard

/-- THE TIED CARD OF 'dialtonelaw02.AddressParses'. -/
def addressParsesCard : Claim7 := { stood := { row := addressParsesRow, standIns := [], harness := (true, "61d002e41d092f080d129e64e82ef0400f42d66075ef3d2f237362417f81c6ee"), looks := false }, kinds := [], alts := [], laidByText := true, laidKinds := [.data, .data, .data, .data, .data, .pinned], laidTests := true, laidLooks := .later }
def AddressParsesCardSaid : Prop := Claim7.holds Tryz.pinned (.plain (OpenSpec.ofChange addressParsesSpec)) addressParsesCard

/-- THE TIED CARD OF 'dialtonelaw02.AddressReads'. -/
def addressReadsCard : Claim7 := { stood := { row := addressReadsRow, standIns := [], harness := (true, "61d002e41d092f080d129e64e82ef0400f42d66075ef3d2f237362417f81c6ee"), looks := false }, kinds := [], alts := [], laidByText := true, laidKinds := [.data, .data, .data, .data, .data, .pinned], laidTests := true, laidLooks := .later }
def AddressReadsCardSaid : Prop := Claim7.holds Tryz.pinned (.plain (OpenSpec.ofChange addressReadsSpec)) addressReadsCard

/-- THE TIED CARD OF 'dialtonelaw02.AddressAgain'. -/
def addressAgainCard : Claim7 := { stood := { row := addressAgainRow, standIns := [], harness := (true, "61d002e41d092f080d129e64e82ef0400f42d66075ef3d2f237362417f81c6ee"), looks := false }, kinds := [], alts := [], laidByText := true, laidKinds := [.data, .data, .data, .data, .data, .pinned], laidTests := true, laidLooks := .later }
def AddressAgainCardSaid : Prop := Claim7.holds Tryz.pinned (.plain (OpenSpec.ofChange addressAgainSpec)) addressAgainCard

/-- THE TIED CARD OF 'dialtonelaw02.AddressPlain'. -/
def addressPlainCard : Claim7 := { stood := { row := addressPlainRow, standIns := [], harness := (true, "61d002e41d092f080d129e64e82ef0400f42d66075ef3d2f237362417f81c6ee"), looks := false }, kinds := [], alts := [], laidByText := true, laidKinds := [.data, .data, .data, .data, .data, .pinned], laidTests := true, laidLooks := .later }
def AddressPlainCardSaid : Prop := Claim7.holds Tryz.pinned (.plain (OpenSpec.ofChange addressPlainSpec)) addressPlainCard

/-- THE TIED CARD OF 'dialtonelaw02.AddressHosts'. -/
def addressHostsCard : Claim7 := { stood := { row := addressHostsRow, standIns := [], harness := (true, "61d002e41d092f080d129e64e82ef0400f42d66075ef3d2f237362417f81c6ee"), looks := false }, kinds := [], alts := [], laidByText := true, laidKinds := [.data, .data, .data, .data, .data, .pinned], laidTests := true, laidLooks := .later }
def AddressHostsCardSaid : Prop := Claim7.holds Tryz.pinned (.plain (OpenSpec.ofChange addressHostsSpec)) addressHostsCard

/-- THE TIED CARD OF 'dialtonelaw02.AddressPrints'. -/
def addressPrintsCard : Claim7 := { stood := { row := addressPrintsRow, standIns := [], harness := (true, "61d002e41d092f080d129e64e82ef0400f42d66075ef3d2f237362417f81c6ee"), looks := false }, kinds := [], alts := [], laidByText := true, laidKinds := [.data, .data, .data, .data, .data, .pinned], laidTests := true, laidLooks := .later }
def AddressPrintsCardSaid : Prop := Claim7.holds Tryz.pinned (.plain (OpenSpec.ofChange addressPrintsSpec)) addressPrintsCard

/-- THE TIED CARD OF 'dialtonelaw02.AddressRound'. -/
def addressRoundCard : Claim7 := { stood := { row := addressRoundRow, standIns := [], harness := (true, "61d002e41d092f080d129e64e82ef0400f42d66075ef3d2f237362417f81c6ee"), looks := false }, kinds := [], alts := [], laidByText := true, laidKinds := [.data, .data, .data, .data, .data, .pinned], laidTests := true, laidLooks := .later }
def AddressRoundCardSaid : Prop := Claim7.holds Tryz.pinned (.plain (OpenSpec.ofChange addressRoundSpec)) addressRoundCard

/-- THE TIED CARD OF 'dialtonelaw02.AddressEquals'. -/
def addressEqualsCard : Claim7 := { stood := { row := addressEqualsRow, standIns := [], harness := (true, "61d002e41d092f080d129e64e82ef0400f42d66075ef3d2f237362417f81c6ee"), looks := false }, kinds := [], alts := [], laidByText := true, laidKinds := [.data, .data, .data, .data, .data, .pinned], laidTests := true, laidLooks := .later }
def AddressEqualsCardSaid : Prop := Claim7.holds Tryz.pinned (.plain (OpenSpec.ofChange addressEqualsSpec)) addressEqualsCard

/-- THE TIED CARD OF 'dialtonelaw02.AddressKnown'. -/
def addressKnownCard : Claim7 := { stood := { row := addressKnownRow, standIns := [], harness := (true, "61d002e41d092f080d129e64e82ef0400f42d66075ef3d2f237362417f81c6ee"), looks := false }, kinds := [], alts := [], laidByText := true, laidKinds := [.data, .data, .data, .data, .data, .pinned], laidTests := true, laidLooks := .later }
def AddressKnownCardSaid : Prop := Claim7.holds Tryz.pinned (.plain (OpenSpec.ofChange addressKnownSpec)) addressKnownCard

/-- THE TIED CARD OF 'dialtonelaw02.AddressWrites'. -/
def addressWritesCard : Claim7 := { stood := { row := addressWritesRow, standIns := [], harness := (true, "61d002e41d092f080d129e64e82ef0400f42d66075ef3d2f237362417f81c6ee"), looks := false }, kinds := [], alts := [], laidByText := true, laidKinds := [.data, .data, .data, .data, .data, .pinned], laidTests := true, laidLooks := .later }
def AddressWritesCardSaid : Prop := Claim7.holds Tryz.pinned (.plain (OpenSpec.ofChange addressWritesSpec)) addressWritesCard

/-- THE TIED CARD OF 'dialtonelaw02.AddressBack'. -/
def addressBackCard : Claim7 := { stood := { row := addressBackRow, standIns := [], harness := (true, "61d002e41d092f080d129e64e82ef0400f42d66075ef3d2f237362417f81c6ee"), looks := false }, kinds := [], alts := [], laidByText := true, laidKinds := [.data, .data, .data, .data, .data, .pinned], laidTests := true, laidLooks := .later }
def AddressBackCardSaid : Prop := Claim7.holds Tryz.pinned (.plain (OpenSpec.ofChange addressBackSpec)) addressBackCard

/-- THE TIED CARD OF 'dialtonelaw02.AddressLists'. -/
def addressListsCard : Claim7 := { stood := { row := addressListsRow, standIns := [], harness := (true, "61d002e41d092f080d129e64e82ef0400f42d66075ef3d2f237362417f81c6ee"), looks := false }, kinds := [], alts := [], laidByText := true, laidKinds := [.data, .data, .data, .data, .data, .pinned], laidTests := true, laidLooks := .later }
def AddressListsCardSaid : Prop := Claim7.holds Tryz.pinned (.plain (OpenSpec.ofChange addressListsSpec)) addressListsCard

/-- THE SECOND FORM's CARD OF 'dialtonelaw02.AddressEscapes'. -/
def addressEscapesUptoCard : Claim7 := { stood := { row := addressEscapesUptoRow, standIns := [], harness := (true, "61d002e41d092f080d129e64e82ef0400f42d66075ef3d2f237362417f81c6ee"), looks := false }, kinds := [], alts := [], laidByText := true, laidKinds := [.data, .data, .data, .data, .data, .pinned], laidTests := true, laidLooks := .later }
def AddressEscapesUptoCardSaid : Prop := Claim7.holds Tryz.pinned (.plain (OpenSpec.upto addressEscapesSpec)) addressEscapesUptoCard

/-- THE SECOND FORM's CARD OF 'dialtonelaw02.AddressParses'. -/
def addressParsesUptoCard : Claim7 := { stood := { row := addressParsesUptoRow, standIns := [], harness := (true, "61d002e41d092f080d129e64e82ef0400f42d66075ef3d2f237362417f81c6ee"), looks := false }, kinds := [], alts := [], laidByText := true, laidKinds := [.data, .data, .data, .data, .data, .pinned], laidTests := true, laidLooks := .later }
def AddressParsesUptoCardSaid : Prop := Claim7.holds Tryz.pinned (.plain (OpenSpec.upto addressParsesSpec)) addressParsesUptoCard

/-- THE SECOND FORM's CARD OF 'dialtonelaw02.AddressReads'. -/
def addressReadsUptoCard : Claim7 := { stood := { row := addressReadsUptoRow, standIns := [], harness := (true, "61d002e41d092f080d129e64e82ef0400f42d66075ef3d2f237362417f81c6ee"), looks := false }, kinds := [], alts := [], laidByText := true, laidKinds := [.data, .data, .data, .data, .data, .pinned], laidTests := true, laidLooks := .later }
def AddressReadsUptoCardSaid : Prop := Claim7.holds Tryz.pinned (.plain (OpenSpec.upto addressReadsSpec)) addressReadsUptoCard

/-- THE SECOND FORM's CARD OF 'dialtonelaw02.AddressAgain'. -/
def addressAgainUptoCard : Claim7 := { stood := { row := addressAgainUptoRow, standIns := [], harness := (true, "61d002e41d092f080d129e64e82ef0400f42d66075ef3d2f237362417f81c6ee"), looks := false }, kinds := [], alts := [], laidByText := true, laidKinds := [.data, .data, .data, .data, .data, .pinned], laidTests := true, laidLooks := .later }
def AddressAgainUptoCardSaid : Prop := Claim7.holds Tryz.pinned (.plain (OpenSpec.upto addressAgainSpec)) addressAgainUptoCard

/-- THE SECOND FORM's CARD OF 'dialtonelaw02.AddressPlain'. -/
def addressPlainUptoCard : Claim7 := { stood := { row := addressPlainUptoRow, standIns := [], harness := (true, "61d002e41d092f080d129e64e82ef0400f42d66075ef3d2f237362417f81c6ee"), looks := false }, kinds := [], alts := [], laidByText := true, laidKinds := [.data, .data, .data, .data, .data, .pinned], laidTests := true, laidLooks := .later }
def AddressPlainUptoCardSaid : Prop := Claim7.holds Tryz.pinned (.plain (OpenSpec.upto addressPlainSpec)) addressPlainUptoCard

/-- THE SECOND FORM's CARD OF 'dialtonelaw02.AddressHosts'. -/
def addressHostsUptoCard : Claim7 := { stood := { row := addressHostsUptoRow, standIns := [], harness := (true, "61d002e41d092f080d129e64e82ef0400f42d66075ef3d2f237362417f81c6ee"), looks := false }, kinds := [], alts := [], laidByText := true, laidKinds := [.data, .data, .data, .data, .data, .pinned], laidTests := true, laidLooks := .later }
def AddressHostsUptoCardSaid : Prop := Claim7.holds Tryz.pinned (.plain (OpenSpec.upto addressHostsSpec)) addressHostsUptoCard

/-- THE SECOND FORM's CARD OF 'dialtonelaw02.AddressPrints'. -/
def addressPrintsUptoCard : Claim7 := { stood := { row := addressPrintsUptoRow, standIns := [], harness := (true, "61d002e41d092f080d129e64e82ef0400f42d66075ef3d2f237362417f81c6ee"), looks := false }, kinds := [], alts := [], laidByText := true, laidKinds := [.data, .data, .data, .data, .data, .pinned], laidTests := true, laidLooks := .later }
def AddressPrintsUptoCardSaid : Prop := Claim7.holds Tryz.pinned (.plain (OpenSpec.upto addressPrintsSpec)) addressPrintsUptoCard

/-- THE SECOND FORM's CARD OF 'dialtonelaw02.AddressRound'. -/
def addressRoundUptoCard : Claim7 := { stood := { row := addressRoundUptoRow, standIns := [], harness := (true, "61d002e41d092f080d129e64e82ef0400f42d66075ef3d2f237362417f81c6ee"), looks := false }, kinds := [], alts := [], laidByText := true, laidKinds := [.data, .data, .data, .data, .data, .pinned], laidTests := true, laidLooks := .later }
def AddressRoundUptoCardSaid : Prop := Claim7.holds Tryz.pinned (.plain (OpenSpec.upto addressRoundSpec)) addressRoundUptoCard

/-- THE SECOND FORM's CARD OF 'dialtonelaw02.AddressEquals'. -/
def addressEqualsUptoCard : Claim7 := { stood := { row := addressEqualsUptoRow, standIns := [], harness := (true, "61d002e41d092f080d129e64e82ef0400f42d66075ef3d2f237362417f81c6ee"), looks := false }, kinds := [], alts := [], laidByText := true, laidKinds := [.data, .data, .data, .data, .data, .pinned], laidTests := true, laidLooks := .later }
def AddressEqualsUptoCardSaid : Prop := Claim7.holds Tryz.pinned (.plain (OpenSpec.upto addressEqualsSpec)) addressEqualsUptoCard

/-- THE SECOND FORM's CARD OF 'dialtonelaw02.AddressKnown'. -/
def addressKnownUptoCard : Claim7 := { stood := { row := addressKnownUptoRow, standIns := [], harness := (true, "61d002e41d092f080d129e64e82ef0400f42d66075ef3d2f237362417f81c6ee"), looks := false }, kinds := [], alts := [], laidByText := true, laidKinds := [.data, .data, .data, .data, .data, .pinned], laidTests := true, laidLooks := .later }
def AddressKnownUptoCardSaid : Prop := Claim7.holds Tryz.pinned (.plain (OpenSpec.upto addressKnownSpec)) addressKnownUptoCard

/-- THE SECOND FORM's CARD OF 'dialtonelaw02.AddressWrites'. -/
def addressWritesUptoCard : Claim7 := { stood := { row := addressWritesUptoRow, standIns := [], harness := (true, "61d002e41d092f080d129e64e82ef0400f42d66075ef3d2f237362417f81c6ee"), looks := false }, kinds := [], alts := [], laidByText := true, laidKinds := [.data, .data, .data, .data, .data, .pinned], laidTests := true, laidLooks := .later }
def AddressWritesUptoCardSaid : Prop := Claim7.holds Tryz.pinned (.plain (OpenSpec.upto addressWritesSpec)) addressWritesUptoCard

/-- THE SECOND FORM's CARD OF 'dialtonelaw02.AddressBack'. -/
def addressBackUptoCard : Claim7 := { stood := { row := addressBackUptoRow, standIns := [], harness := (true, "61d002e41d092f080d129e64e82ef0400f42d66075ef3d2f237362417f81c6ee"), looks := false }, kinds := [], alts := [], laidByText := true, laidKinds := [.data, .data, .data, .data, .data, .pinned], laidTests := true, laidLooks := .later }
def AddressBackUptoCardSaid : Prop := Claim7.holds Tryz.pinned (.plain (OpenSpec.upto addressBackSpec)) addressBackUptoCard

/-- THE SECOND FORM's CARD OF 'dialtonelaw02.AddressLists'. -/
def addressListsUptoCard : Claim7 := { stood := { row := addressListsUptoRow, standIns := [], harness := (true, "61d002e41d092f080d129e64e82ef0400f42d66075ef3d2f237362417f81c6ee"), looks := false }, kinds := [], alts := [], laidByText := true, laidKinds := [.data, .data, .data, .data, .data, .pinned], laidTests := true, laidLooks := .later }
def AddressListsUptoCardSaid : Prop := Claim7.holds Tryz.pinned (.plain (OpenSpec.upto addressListsSpec)) addressListsUptoCard
end Rows
end Go.Proofs.YthfonniieaiocaaGreatDoor
