/-
  DERIVED. GIVEN WITH THE SEED: THE CARDS: each row of YtldonfgdomeacaaDoorRows.lean that lists a variable, with what it lists TIED to the program's text (the seventh form; the later family's looks); each row that meets fmt, with fmt's text TOLD by the authors' own Lean function (tested against real Go, not proved from fmt's source: count such statements apart). THE CARD IS WHAT COUNTS. Prove the row's statement (the work); the ties are given (YtldonfgdomeacaaDoorTie.lean); close each card by the builder's one call (the guide's Derived/Test/ToyasCard.lean, 'card_holds'). Laid BY PROGRAM, IN A SANDBOX (cutbox-door.mjs). By AI agents, Wed Nov 11 2026. No macro, syntax, notation, axiom, sorry.
-/
import Derived.Test.YtldonfgdomeacaaDoorRows
import GoSem.ClaimSeven
namespace Go.Proofs.YtldonfgdomeacaaDoor
namespace Rows

/-- THE TIED CARD OF 'dialtonelaw06.HashSums'. -/
def hashSumsCard : Claim7 := { stood := { row := hashSumsRow, standIns := [], harness := (true, "8feed82d2bfc057199c0e6202f4ec7e6b44088fed045939ef00b25865666ff31"), looks := false }, kinds := [], alts := [], laidByText := true, laidKinds := [.data], laidTests := true, laidLooks := .later }
def HashSumsCardSaid : Prop := Claim7.holds Tryd.pinned (.plain (OpenSpec.ofChange hashSumsSpec)) hashSumsCard

/-- THE TIED CARD OF 'dialtonelaw06.HashFeeds'. -/
def hashFeedsCard : Claim7 := { stood := { row := hashFeedsRow, standIns := [], harness := (true, "8feed82d2bfc057199c0e6202f4ec7e6b44088fed045939ef00b25865666ff31"), looks := false }, kinds := [], alts := [], laidByText := true, laidKinds := [.data], laidTests := true, laidLooks := .later }
def HashFeedsCardSaid : Prop := Claim7.holds Tryd.pinned (.plain (OpenSpec.ofChange hashFeedsSpec)) hashFeedsCard

/-- THE TIED CARD OF 'dialtonelaw06.HashSplits'. -/
def hashSplitsCard : Claim7 := { stood := { row := hashSplitsRow, standIns := [], harness := (true, "8feed82d2bfc057199c0e6202f4ec7e6b44088fed045939ef00b25865666ff31"), looks := false }, kinds := [], alts := [], laidByText := true, laidKinds := [.data], laidTests := true, laidLooks := .later }
def HashSplitsCardSaid : Prop := Claim7.holds Tryd.pinned (.plain (OpenSpec.ofChange hashSplitsSpec)) hashSplitsCard

/-- THE TIED CARD OF 'dialtonelaw06.HashSingle'. -/
def hashSingleCard : Claim7 := { stood := { row := hashSingleRow, standIns := [], harness := (true, "8feed82d2bfc057199c0e6202f4ec7e6b44088fed045939ef00b25865666ff31"), looks := false }, kinds := [], alts := [], laidByText := true, laidKinds := [.data], laidTests := true, laidLooks := .later }
def HashSingleCardSaid : Prop := Claim7.holds Tryd.pinned (.plain (OpenSpec.ofChange hashSingleSpec)) hashSingleCard

/-- THE TIED CARD OF 'dialtonelaw06.HashTails'. -/
def hashTailsCard : Claim7 := { stood := { row := hashTailsRow, standIns := [], harness := (true, "8feed82d2bfc057199c0e6202f4ec7e6b44088fed045939ef00b25865666ff31"), looks := false }, kinds := [], alts := [], laidByText := true, laidKinds := [.data], laidTests := true, laidLooks := .later }
def HashTailsCardSaid : Prop := Claim7.holds Tryd.pinned (.plain (OpenSpec.ofChange hashTailsSpec)) hashTailsCard

/-- THE TIED CARD OF 'dialtonelaw06.HashHex'. -/
def hashHexCard : Claim7 := { stood := { row := hashHexRow, standIns := [], harness := (true, "8feed82d2bfc057199c0e6202f4ec7e6b44088fed045939ef00b25865666ff31"), looks := false }, kinds := [], alts := [], laidByText := true, laidKinds := [.data], laidTests := true, laidLooks := .later }
def HashHexCardSaid : Prop := Claim7.holds Tryd.pinned (.plain (OpenSpec.ofChange hashHexSpec)) hashHexCard

/-- THE TIED CARD OF 'dialtonelaw06.HashBack'. -/
def hashBackCard : Claim7 := { stood := { row := hashBackRow, standIns := [], harness := (true, "8feed82d2bfc057199c0e6202f4ec7e6b44088fed045939ef00b25865666ff31"), looks := false }, kinds := [], alts := [], laidByText := true, laidKinds := [.data], laidTests := true, laidLooks := .later }
def HashBackCardSaid : Prop := Claim7.holds Tryd.pinned (.plain (OpenSpec.ofChange hashBackSpec)) hashBackCard

/-- THE TIED CARD OF 'dialtonelaw06.HashKnown'. -/
def hashKnownCard : Claim7 := { stood := { row := hashKnownRow, standIns := [], harness := (true, "8feed82d2bfc057199c0e6202f4ec7e6b44088fed045939ef00b25865666ff31"), looks := false }, kinds := [], alts := [], laidByText := true, laidKinds := [.data], laidTests := true, laidLooks := .later }
def HashKnownCardSaid : Prop := Claim7.holds Tryd.pinned (.plain (OpenSpec.ofChange hashKnownSpec)) hashKnownCard

/-- THE SECOND FORM's CARD OF 'dialtonelaw06.HashSums'. -/
def hashSumsUptoCard : Claim7 := { stood := { row := hashSumsUptoRow, standIns := [], harness := (true, "8feed82d2bfc057199c0e6202f4ec7e6b44088fed045939ef00b25865666ff31"), looks := false }, kinds := [], alts := [], laidByText := true, laidKinds := [.data], laidTests := true, laidLooks := .later }
def HashSumsUptoCardSaid : Prop := Claim7.holds Tryd.pinned (.plain (OpenSpec.upto hashSumsSpec)) hashSumsUptoCard

/-- THE SECOND FORM's CARD OF 'dialtonelaw06.HashFeeds'. -/
def hashFeedsUptoCard : Claim7 := { stood := { row := hashFeedsUptoRow, standIns := [], harness := (true, "8feed82d2bfc057199c0e6202f4ec7e6b44088fed045939ef00b25865666ff31"), looks := false }, kinds := [], alts := [], laidByText := true, laidKinds := [.data], laidTests := true, laidLooks := .later }
def HashFeedsUptoCardSaid : Prop := Claim7.holds Tryd.pinned (.plain (OpenSpec.upto hashFeedsSpec)) hashFeedsUptoCard

/-- THE SECOND FORM's CARD OF 'dialtonelaw06.HashSplits'. -/
def hashSplitsUptoCard : Claim7 := { stood := { row := hashSplitsUptoRow, standIns := [], harness := (true, "8feed82d2bfc057199c0e6202f4ec7e6b44088fed045939ef00b25865666ff31"), looks := false }, kinds := [], alts := [], laidByText := true, laidKinds := [.data], laidTests := true, laidLooks := .later }
def HashSplitsUptoCardSaid : Prop := Claim7.holds Tryd.pinned (.plain (OpenSpec.upto hashSplitsSpec)) hashSplitsUptoCard

/-- THE SECOND FORM's CARD OF 'dialtonelaw06.HashSingle'. -/
def hashSingleUptoCard : Claim7 := { stood := { row := hashSingleUptoRow, standIns := [], harness := (true, "8feed82d2bfc057199c0e6202f4ec7e6b44088fed045939ef00b25865666ff31"), looks := false }, kinds := [], alts := [], laidByText := true, laidKinds := [.data], laidTests := true, laidLooks := .later }
def HashSingleUptoCardSaid : Prop := Claim7.holds Tryd.pinned (.plain (OpenSpec.upto hashSingleSpec)) hashSingleUptoCard

/-- THE SECOND FORM's CARD OF 'dialtonelaw06.HashTails'. -/
def hashTailsUptoCard : Claim7 := { stood := { row := hashTailsUptoRow, standIns := [], harness := (true, "8feed82d2bfc057199c0e6202f4ec7e6b44088fed045939ef00b25865666ff31"), looks := false }, kinds := [], alts := [], laidByText := true, laidKinds := [.data], laidTests := true, laidLooks := .later }
def HashTailsUptoCardSaid : Prop := Claim7.holds Tryd.pinned (.plain (OpenSpec.upto hashTailsSpec)) hashTailsUptoCard

/-- THE SECOND FORM's CARD OF 'dialtonelaw06.HashHex'. -/
def hashHexUptoCard : Claim7 := { stood := { row := hashHexUptoRow, standIns := [], harness := (true, "8feed82d2bfc057199c0e6202f4ec7e6b44088fed045939ef00b25865666ff31"), looks := false }, kinds := [], alts := [], laidByText := true, laidKinds := [.data], laidTests := true, laidLooks := .later }
def HashHexUptoCardSaid : Prop := Claim7.holds Tryd.pinned (.plain (OpenSpec.upto hashHexSpec)) hashHexUptoCard

/-- THE SECOND FORM's CARD OF 'dialtonelaw06.HashBack'. -/
def hashBackUptoCard : Claim7 := { stood := { row := hashBackUptoRow, standIns := [], harness := (true, "8feed82d2bfc057199c0e6202f4ec7e6b44088fed045939ef00b25865666ff31"), looks := false }, kinds := [], alts := [], laidByText := true, laidKinds := [.data], laidTests := true, laidLooks := .later }
def HashBackUptoCardSaid : Prop := Claim7.holds Tryd.pinned (.plain (OpenSpec.upto hashBackSpec)) hashBackUptoCard

/-- THE SECOND FORM's CARD OF 'dialtonelaw06.HashKnown'. -/
def hashKnownUptoCard : Claim7 := { stood := { row := hashKnownUptoRow, standIns := [], harness := (true, "8feed82d2bfc057199c0e6202f4ec7e6b44088fed045939ef00b25865666ff31"), looks := false }, kinds := [], alts := [], laidByText := true, laidKinds := [.data], laidTests := true, laidLooks := .later }
def HashKnownUptoCardSaid : Prop := Claim7.holds Tryd.pinned (.plain (OpenSpec.upto hashKnownSpec)) hashKnownUptoCard
end Rows
end Go.Proofs.YtldonfgdomeacaaDoor
