/-
  DERIVED. GIVEN WITH THE SEED: THE CARDS: each row of YtfhbpgickkibmaaGreatDoorRows.lean that lists a variable, with what it lists TIED to the program's text (the seventh form; the later family's looks); each row that meets fmt, with fmt's text TOLD by the authors' own Lean function (tested against real Go, not proved from fmt's source: count such statements apart). THE CARD IS WHAT COUNTS. Prove the row's statement (the work); the ties are given (YtfhbpgickkibmaaGreatDoorTie.lean); close each card by the builder's one call (the guide's Derived/Test/ToyasCard.lean, 'card_holds'). Laid BY PROGRAM, IN A SANDBOX (cutbox-door.mjs). By AI agents, Wed Nov 11 2026. No macro, syntax, notation, axiom, sorry.
-/
import Derived.Test.YtfhbpgickkibmaaGreatDoorRows
import GoSem.ClaimSeven
namespace Go.Proofs.YtfhbpgickkibmaaGreatDoor
namespace Rows

/-- THE TIED CARD OF 'dialtonelaw07.AuthCredentials'. -/
def authCredentialsCard : Claim7 := { stood := { row := authCredentialsRow, standIns := [], harness := (true, "883fe9d95c9ca4ecdce8be6a6d59bc943984469e3288e1cbc5f25035def3f336"), looks := false }, kinds := [], alts := [], laidByText := true, laidKinds := [.data, .pinned], laidTests := true, laidLooks := .later }
def AuthCredentialsCardSaid : Prop := Claim7.holds Tryz.pinned (.plain (OpenSpec.ofChange authCredentialsSpec)) authCredentialsCard

/-- THE TIED CARD OF 'dialtonelaw07.AuthHashes'. -/
def authHashesCard : Claim7 := { stood := { row := authHashesRow, standIns := [], harness := (true, "883fe9d95c9ca4ecdce8be6a6d59bc943984469e3288e1cbc5f25035def3f336"), looks := false }, kinds := [], alts := [], laidByText := true, laidKinds := [.data, .data, .pinned], laidTests := true, laidLooks := .later }
def AuthHashesCardSaid : Prop := Claim7.holds Tryz.pinned (.plain (OpenSpec.ofChange authHashesSpec)) authHashesCard

/-- THE TIED CARD OF 'dialtonelaw07.AuthAnswers'. -/
def authAnswersCard : Claim7 := { stood := { row := authAnswersRow, standIns := [], harness := (true, "883fe9d95c9ca4ecdce8be6a6d59bc943984469e3288e1cbc5f25035def3f336"), looks := false }, kinds := [], alts := [], laidByText := true, laidKinds := [.data, .data, .data, .pinned], laidTests := true, laidLooks := .later }
def AuthAnswersCardSaid : Prop := Claim7.holds Tryz.pinned (.plain (OpenSpec.ofChange authAnswersSpec)) authAnswersCard

/-- THE TIED CARD OF 'dialtonelaw07.AuthVerifies'. -/
def authVerifiesCard : Claim7 := { stood := { row := authVerifiesRow, standIns := [], harness := (true, "883fe9d95c9ca4ecdce8be6a6d59bc943984469e3288e1cbc5f25035def3f336"), looks := false }, kinds := [], alts := [], laidByText := true, laidKinds := [.data, .data, .data, .pinned], laidTests := true, laidLooks := .later }
def AuthVerifiesCardSaid : Prop := Claim7.holds Tryz.pinned (.plain (OpenSpec.ofChange authVerifiesSpec)) authVerifiesCard

/-- THE TIED CARD OF 'dialtonelaw07.AuthIssues'. -/
def authIssuesCard : Claim7 := { stood := { row := authIssuesRow, standIns := [], harness := (true, "883fe9d95c9ca4ecdce8be6a6d59bc943984469e3288e1cbc5f25035def3f336"), looks := false }, kinds := [], alts := [], laidByText := true, laidKinds := [.data, .data, .data, .data, .data, .pinned], laidTests := true, laidLooks := .later }
def AuthIssuesCardSaid : Prop := Claim7.holds Tryz.pinned (.plain (OpenSpec.ofChange authIssuesSpec)) authIssuesCard

/-- THE TIED CARD OF 'dialtonelaw07.AuthAccepts'. -/
def authAcceptsCard : Claim7 := { stood := { row := authAcceptsRow, standIns := [], harness := (true, "883fe9d95c9ca4ecdce8be6a6d59bc943984469e3288e1cbc5f25035def3f336"), looks := false }, kinds := [], alts := [], laidByText := true, laidKinds := [.data, .data, .data, .data, .data, .data, .pinned], laidTests := true, laidLooks := .later }
def AuthAcceptsCardSaid : Prop := Claim7.holds Tryz.pinned (.plain (OpenSpec.ofChange authAcceptsSpec)) authAcceptsCard

/-- THE TIED CARD OF 'dialtonelaw07.AuthOnce'. -/
def authOnceCard : Claim7 := { stood := { row := authOnceRow, standIns := [], harness := (true, "883fe9d95c9ca4ecdce8be6a6d59bc943984469e3288e1cbc5f25035def3f336"), looks := false }, kinds := [], alts := [], laidByText := true, laidKinds := [.data, .data, .data, .data, .data, .data, .pinned], laidTests := true, laidLooks := .later }
def AuthOnceCardSaid : Prop := Claim7.holds Tryz.pinned (.plain (OpenSpec.ofChange authOnceSpec)) authOnceCard

/-- THE TIED CARD OF 'dialtonelaw07.AuthNonces'. -/
def authNoncesCard : Claim7 := { stood := { row := authNoncesRow, standIns := [], harness := (true, "883fe9d95c9ca4ecdce8be6a6d59bc943984469e3288e1cbc5f25035def3f336"), looks := false }, kinds := [], alts := [], laidByText := true, laidKinds := [.data, .data, .data, .data, .data, .data, .pinned], laidTests := true, laidLooks := .later }
def AuthNoncesCardSaid : Prop := Claim7.holds Tryz.pinned (.plain (OpenSpec.ofChange authNoncesSpec)) authNoncesCard

/-- THE TIED CARD OF 'dialtonelaw07.AuthKnown'. -/
def authKnownCard : Claim7 := { stood := { row := authKnownRow, standIns := [], harness := (true, "883fe9d95c9ca4ecdce8be6a6d59bc943984469e3288e1cbc5f25035def3f336"), looks := false }, kinds := [], alts := [], laidByText := true, laidKinds := [.data, .data, .data, .data, .data, .data, .pinned], laidTests := true, laidLooks := .later }
def AuthKnownCardSaid : Prop := Claim7.holds Tryz.pinned (.plain (OpenSpec.ofChange authKnownSpec)) authKnownCard

/-- THE SECOND FORM's CARD OF 'dialtonelaw07.AuthCredentials'. -/
def authCredentialsUptoCard : Claim7 := { stood := { row := authCredentialsUptoRow, standIns := [], harness := (true, "883fe9d95c9ca4ecdce8be6a6d59bc943984469e3288e1cbc5f25035def3f336"), looks := false }, kinds := [], alts := [], laidByText := true, laidKinds := [.data, .pinned], laidTests := true, laidLooks := .later }
def AuthCredentialsUptoCardSaid : Prop := Claim7.holds Tryz.pinned (.plain (OpenSpec.upto authCredentialsSpec)) authCredentialsUptoCard

/-- THE SECOND FORM's CARD OF 'dialtonelaw07.AuthHashes'. -/
def authHashesUptoCard : Claim7 := { stood := { row := authHashesUptoRow, standIns := [], harness := (true, "883fe9d95c9ca4ecdce8be6a6d59bc943984469e3288e1cbc5f25035def3f336"), looks := false }, kinds := [], alts := [], laidByText := true, laidKinds := [.data, .data, .pinned], laidTests := true, laidLooks := .later }
def AuthHashesUptoCardSaid : Prop := Claim7.holds Tryz.pinned (.plain (OpenSpec.upto authHashesSpec)) authHashesUptoCard

/-- THE SECOND FORM's CARD OF 'dialtonelaw07.AuthAnswers'. -/
def authAnswersUptoCard : Claim7 := { stood := { row := authAnswersUptoRow, standIns := [], harness := (true, "883fe9d95c9ca4ecdce8be6a6d59bc943984469e3288e1cbc5f25035def3f336"), looks := false }, kinds := [], alts := [], laidByText := true, laidKinds := [.data, .data, .data, .pinned], laidTests := true, laidLooks := .later }
def AuthAnswersUptoCardSaid : Prop := Claim7.holds Tryz.pinned (.plain (OpenSpec.upto authAnswersSpec)) authAnswersUptoCard

/-- THE SECOND FORM's CARD OF 'dialtonelaw07.AuthVerifies'. -/
def authVerifiesUptoCard : Claim7 := { stood := { row := authVerifiesUptoRow, standIns := [], harness := (true, "883fe9d95c9ca4ecdce8be6a6d59bc943984469e3288e1cbc5f25035def3f336"), looks := false }, kinds := [], alts := [], laidByText := true, laidKinds := [.data, .data, .data, .pinned], laidTests := true, laidLooks := .later }
def AuthVerifiesUptoCardSaid : Prop := Claim7.holds Tryz.pinned (.plain (OpenSpec.upto authVerifiesSpec)) authVerifiesUptoCard

/-- THE SECOND FORM's CARD OF 'dialtonelaw07.AuthIssues'. -/
def authIssuesUptoCard : Claim7 := { stood := { row := authIssuesUptoRow, standIns := [], harness := (true, "883fe9d95c9ca4ecdce8be6a6d59bc943984469e3288e1cbc5f25035def3f336"), looks := false }, kinds := [], alts := [], laidByText := true, laidKinds := [.data, .data, .data, .data, .data, .pinned], laidTests := true, laidLooks := .later }
def AuthIssuesUptoCardSaid : Prop := Claim7.holds Tryz.pinned (.plain (OpenSpec.upto authIssuesSpec)) authIssuesUptoCard

/-- THE SECOND FORM's CARD OF 'dialtonelaw07.AuthAccepts'. -/
def authAcceptsUptoCard : Claim7 := { stood := { row := authAcceptsUptoRow, standIns := [], harness := (true, "883fe9d95c9ca4ecdce8be6a6d59bc943984469e3288e1cbc5f25035def3f336"), looks := false }, kinds := [], alts := [], laidByText := true, laidKinds := [.data, .data, .data, .data, .data, .data, .pinned], laidTests := true, laidLooks := .later }
def AuthAcceptsUptoCardSaid : Prop := Claim7.holds Tryz.pinned (.plain (OpenSpec.upto authAcceptsSpec)) authAcceptsUptoCard

/-- THE SECOND FORM's CARD OF 'dialtonelaw07.AuthOnce'. -/
def authOnceUptoCard : Claim7 := { stood := { row := authOnceUptoRow, standIns := [], harness := (true, "883fe9d95c9ca4ecdce8be6a6d59bc943984469e3288e1cbc5f25035def3f336"), looks := false }, kinds := [], alts := [], laidByText := true, laidKinds := [.data, .data, .data, .data, .data, .data, .pinned], laidTests := true, laidLooks := .later }
def AuthOnceUptoCardSaid : Prop := Claim7.holds Tryz.pinned (.plain (OpenSpec.upto authOnceSpec)) authOnceUptoCard

/-- THE SECOND FORM's CARD OF 'dialtonelaw07.AuthNonces'. -/
def authNoncesUptoCard : Claim7 := { stood := { row := authNoncesUptoRow, standIns := [], harness := (true, "883fe9d95c9ca4ecdce8be6a6d59bc943984469e3288e1cbc5f25035def3f336"), looks := false }, kinds := [], alts := [], laidByText := true, laidKinds := [.data, .data, .data, .data, .data, .data, .pinned], laidTests := true, laidLooks := .later }
def AuthNoncesUptoCardSaid : Prop := Claim7.holds Tryz.pinned (.plain (OpenSpec.upto authNoncesSpec)) authNoncesUptoCard

/-- THE SECOND FORM's CARD OF 'dialtonelaw07.AuthKnown'. -/
def authKnownUptoCard : Claim7 := { stood := { row := authKnownUptoRow, standIns := [], harness := (true, "883fe9d95c9ca4ecdce8be6a6d59bc943984469e3288e1cbc5f25035def3f336"), looks := false }, kinds := [], alts := [], laidByText := true, laidKinds := [.data, .data, .data, .data, .data, .data, .pinned], laidTests := true, laidLooks := .later }
def AuthKnownUptoCardSaid : Prop := Claim7.holds Tryz.pinned (.plain (OpenSpec.upto authKnownSpec)) authKnownUptoCard
end Rows
end Go.Proofs.YtfhbpgickkibmaaGreatDoor
