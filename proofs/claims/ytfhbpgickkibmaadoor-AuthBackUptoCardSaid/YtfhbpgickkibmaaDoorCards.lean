/-
  DERIVED. GIVEN WITH THE SEED: THE CARDS: each row of YtfhbpgickkibmaaDoorRows.lean that lists a variable, with what it lists TIED to the program's text (the seventh form; the later family's looks); each row that meets fmt, with fmt's text TOLD by the authors' own Lean function (tested against real Go, not proved from fmt's source: count such statements apart). THE CARD IS WHAT COUNTS. Prove the row's statement (the work); the ties are given (YtfhbpgickkibmaaDoorTie.lean); close each card by the builder's one call (the guide's Derived/Test/ToyasCard.lean, 'card_holds'). Laid BY PROGRAM, IN A SANDBOX (cutbox-door.mjs). By AI agents, Wed Nov 11 2026. No macro, syntax, notation, axiom, sorry.
-/
import Derived.Test.YtfhbpgickkibmaaDoorRows
import GoSem.ClaimSeven
namespace Go.Proofs.YtfhbpgickkibmaaDoor
namespace Rows

/-- THE TIED CARD OF 'dialtonelaw07.AuthChallenges'. -/
def authChallengesCard : Claim7 := { stood := { row := authChallengesRow, standIns := [], harness := (true, "db483bc165acc79c8878a991281753183a793c97af9a93a01e961850aa703945"), looks := false }, kinds := [], alts := [], laidByText := true, laidKinds := [.data, .pinned], laidTests := true, laidLooks := .later }
def AuthChallengesCardSaid : Prop := Claim7.holds Tryd.pinned (.plain (OpenSpec.ofChange authChallengesSpec)) authChallengesCard

/-- THE TIED CARD OF 'dialtonelaw07.AuthBack'. -/
def authBackCard : Claim7 := { stood := { row := authBackRow, standIns := [], harness := (true, "db483bc165acc79c8878a991281753183a793c97af9a93a01e961850aa703945"), looks := false }, kinds := [], alts := [], laidByText := true, laidKinds := [.data, .pinned], laidTests := true, laidLooks := .later }
def AuthBackCardSaid : Prop := Claim7.holds Tryd.pinned (.plain (OpenSpec.ofChange authBackSpec)) authBackCard

/-- THE SECOND FORM's CARD OF 'dialtonelaw07.AuthChallenges'. -/
def authChallengesUptoCard : Claim7 := { stood := { row := authChallengesUptoRow, standIns := [], harness := (true, "db483bc165acc79c8878a991281753183a793c97af9a93a01e961850aa703945"), looks := false }, kinds := [], alts := [], laidByText := true, laidKinds := [.data, .pinned], laidTests := true, laidLooks := .later }
def AuthChallengesUptoCardSaid : Prop := Claim7.holds Tryd.pinned (.plain (OpenSpec.upto authChallengesSpec)) authChallengesUptoCard

/-- THE SECOND FORM's CARD OF 'dialtonelaw07.AuthBack'. -/
def authBackUptoCard : Claim7 := { stood := { row := authBackUptoRow, standIns := [], harness := (true, "db483bc165acc79c8878a991281753183a793c97af9a93a01e961850aa703945"), looks := false }, kinds := [], alts := [], laidByText := true, laidKinds := [.data, .pinned], laidTests := true, laidLooks := .later }
def AuthBackUptoCardSaid : Prop := Claim7.holds Tryd.pinned (.plain (OpenSpec.upto authBackSpec)) authBackUptoCard
end Rows
end Go.Proofs.YtfhbpgickkibmaaDoor
