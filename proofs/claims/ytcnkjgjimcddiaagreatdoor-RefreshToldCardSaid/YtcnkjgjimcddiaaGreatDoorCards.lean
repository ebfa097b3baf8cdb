/-
  DERIVED. GIVEN WITH THE SEED: THE CARDS: each row of YtcnkjgjimcddiaaGreatDoorRows.lean that lists a variable, with what it lists TIED to the program's text (the seventh form; the later family's looks); each row that meets fmt, with fmt's text TOLD by the authors' own Lean function (tested against real Go, not proved from fmt's source: count such statements apart). THE CARD IS WHAT COUNTS. Prove the row's statement (the work); the ties are given (YtcnkjgjimcddiaaGreatDoorTie.lean); close each card by the builder's one call (the guide's Derived/Test/ToyasCard.lean, 'card_holds'). Laid BY PROGRAM, IN A SANDBOX (cutbox-door.mjs). By AI agents, Wed Nov 11 2026. No macro, syntax, notation, axiom, sorry.
-/
import Derived.Test.YtcnkjgjimcddiaaGreatDoorRows
import GoSem.ClaimSeven
namespace Go.Proofs.YtcnkjgjimcddiaaGreatDoor
namespace Rows

/-- THE TIED CARD OF 'dialtonelaw19.RefreshSteps'. -/
def refreshStepsCard : Claim7 := { stood := { row := refreshStepsRow, standIns := [], harness := (true, "cfcef821db5e32325e9fb28026423bf272ada4c5cc709183d45cd02844920ce7"), looks := false }, kinds := [], alts := [], laidByText := true, laidKinds := [.data, .data, .data, .data, .data, .data, .pinned], laidTests := true, laidLooks := .later }
def RefreshStepsCardSaid : Prop := Claim7.holds Tryz.pinned (.plain (OpenSpec.ofChange refreshStepsSpec)) refreshStepsCard

/-- THE TIED CARD OF 'dialtonelaw19.RefreshOne'. -/
def refreshOneCard : Claim7 := { stood := { row := refreshOneRow, standIns := [], harness := (true, "cfcef821db5e32325e9fb28026423bf272ada4c5cc709183d45cd02844920ce7"), looks := false }, kinds := [], alts := [], laidByText := true, laidKinds := [.data, .data, .data, .data, .data, .data, .pinned], laidTests := true, laidLooks := .later }
def RefreshOneCardSaid : Prop := Claim7.holds Tryz.pinned (.plain (OpenSpec.ofChange refreshOneSpec)) refreshOneCard

/-- THE TIED CARD OF 'dialtonelaw19.RefreshLives'. -/
def refreshLivesCard : Claim7 := { stood := { row := refreshLivesRow, standIns := [], harness := (true, "cfcef821db5e32325e9fb28026423bf272ada4c5cc709183d45cd02844920ce7"), looks := false }, kinds := [], alts := [], laidByText := true, laidKinds := [.data, .data, .data, .data, .data, .data, .pinned], laidTests := true, laidLooks := .later }
def RefreshLivesCardSaid : Prop := Claim7.holds Tryz.pinned (.plain (OpenSpec.ofChange refreshLivesSpec)) refreshLivesCard

/-- THE TIED CARD OF 'dialtonelaw19.RefreshKnown'. -/
def refreshKnownCard : Claim7 := { stood := { row := refreshKnownRow, standIns := [], harness := (true, "cfcef821db5e32325e9fb28026423bf272ada4c5cc709183d45cd02844920ce7"), looks := false }, kinds := [], alts := [], laidByText := true, laidKinds := [.data, .data, .data, .data, .data, .data, .pinned], laidTests := true, laidLooks := .later }
def RefreshKnownCardSaid : Prop := Claim7.holds Tryz.pinned (.plain (OpenSpec.ofChange refreshKnownSpec)) refreshKnownCard

/-- THE TIED CARD OF 'dialtonelaw19.RefreshTold'. -/
def refreshToldCard : Claim7 := { stood := { row := refreshToldRow, standIns := [], harness := (true, "cfcef821db5e32325e9fb28026423bf272ada4c5cc709183d45cd02844920ce7"), looks := false }, kinds := [], alts := [], laidByText := true, laidKinds := [.data, .data, .data, .data, .data, .data, .pinned], laidTests := true, laidLooks := .later }
def RefreshToldCardSaid : Prop := Claim7.holds Tryz.pinned (.plain (OpenSpec.ofChange refreshToldSpec)) refreshToldCard

/-- THE SECOND FORM's CARD OF 'dialtonelaw19.RefreshSteps'. -/
def refreshStepsUptoCard : Claim7 := { stood := { row := refreshStepsUptoRow, standIns := [], harness := (true, "cfcef821db5e32325e9fb28026423bf272ada4c5cc709183d45cd02844920ce7"), looks := false }, kinds := [], alts := [], laidByText := true, laidKinds := [.data, .data, .data, .data, .data, .data, .pinned], laidTests := true, laidLooks := .later }
def RefreshStepsUptoCardSaid : Prop := Claim7.holds Tryz.pinned (.plain (OpenSpec.upto refreshStepsSpec)) refreshStepsUptoCard

/-- THE SECOND FORM's CARD OF 'dialtonelaw19.RefreshOne'. -/
def refreshOneUptoCard : Claim7 := { stood := { row := refreshOneUptoRow, standIns := [], harness := (true, "cfcef821db5e32325e9fb28026423bf272ada4c5cc709183d45cd02844920ce7"), looks := false }, kinds := [], alts := [], laidByText := true, laidKinds := [.data, .data, .data, .data, .data, .data, .pinned], laidTests := true, laidLooks := .later }
def RefreshOneUptoCardSaid : Prop := Claim7.holds Tryz.pinned (.plain (OpenSpec.upto refreshOneSpec)) refreshOneUptoCard

/-- THE SECOND FORM's CARD OF 'dialtonelaw19.RefreshLives'. -/
def refreshLivesUptoCard : Claim7 := { stood := { row := refreshLivesUptoRow, standIns := [], harness := (true, "cfcef821db5e32325e9fb28026423bf272ada4c5cc709183d45cd02844920ce7"), looks := false }, kinds := [], alts := [], laidByText := true, laidKinds := [.data, .data, .data, .data, .data, .data, .pinned], laidTests := true, laidLooks := .later }
def RefreshLivesUptoCardSaid : Prop := Claim7.holds Tryz.pinned (.plain (OpenSpec.upto refreshLivesSpec)) refreshLivesUptoCard

/-- THE SECOND FORM's CARD OF 'dialtonelaw19.RefreshKnown'. -/
def refreshKnownUptoCard : Claim7 := { stood := { row := refreshKnownUptoRow, standIns := [], harness := (true, "cfcef821db5e32325e9fb28026423bf272ada4c5cc709183d45cd02844920ce7"), looks := false }, kinds := [], alts := [], laidByText := true, laidKinds := [.data, .data, .data, .data, .data, .data, .pinned], laidTests := true, laidLooks := .later }
def RefreshKnownUptoCardSaid : Prop := Claim7.holds Tryz.pinned (.plain (OpenSpec.upto refreshKnownSpec)) refreshKnownUptoCard

/-- THE SECOND FORM's CARD OF 'dialtonelaw19.RefreshTold'. -/
def refreshToldUptoCard : Claim7 := { stood := { row := refreshToldUptoRow, standIns := [], harness := (true, "cfcef821db5e32325e9fb28026423bf272ada4c5cc709183d45cd02844920ce7"), looks := false }, kinds := [], alts := [], laidByText := true, laidKinds := [.data, .data, .data, .data, .data, .data, .pinned], laidTests := true, laidLooks := .later }
def RefreshToldUptoCardSaid : Prop := Claim7.holds Tryz.pinned (.plain (OpenSpec.upto refreshToldSpec)) refreshToldUptoCard
end Rows
end Go.Proofs.YtcnkjgjimcddiaaGreatDoor
