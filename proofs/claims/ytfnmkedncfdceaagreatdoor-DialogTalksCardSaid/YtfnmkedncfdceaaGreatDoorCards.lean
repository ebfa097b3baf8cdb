/-
  DERIVED. GIVEN WITH THE SEED: THE CARDS: each row of YtfnmkedncfdceaaGreatDoorRows.lean that lists a variable, with what it lists TIED to the program's text (the seventh form; the later family's looks); each row that meets fmt, with fmt's text TOLD by the authors' own Lean function (tested against real Go, not proved from fmt's source: count such statements apart). THE CARD IS WHAT COUNTS. Prove the row's statement (the work); the ties are given (YtfnmkedncfdceaaGreatDoorTie.lean); close each card by the builder's one call (the guide's Derived/Test/ToyasCard.lean, 'card_holds'). Laid BY PROGRAM, IN A SANDBOX (cutbox-door.mjs). By AI agents, Wed Nov 11 2026. No macro, syntax, notation, axiom, sorry.
-/
import Derived.Test.YtfnmkedncfdceaaGreatDoorRows
import GoSem.ClaimSeven
namespace Go.Proofs.YtfnmkedncfdceaaGreatDoor
namespace Rows

/-- THE TIED CARD OF 'dialtonelaw17.DialogMakes'. -/
def dialogMakesCard : Claim7 := { stood := { row := dialogMakesRow, standIns := [], harness := (true, "5a30a9d73df79acb2ed22f927e245a05f84076631029500d82703babf0e34c9f"), looks := false }, kinds := [], alts := [], laidByText := true, laidKinds := [.data, .data, .data, .data, .data, .data, .data, .pinned], laidTests := true, laidLooks := .later }
def DialogMakesCardSaid : Prop := Claim7.holds Tryz.pinned (.plain (OpenSpec.ofChange dialogMakesSpec)) dialogMakesCard

/-- THE TIED CARD OF 'dialtonelaw17.DialogMirror'. -/
def dialogMirrorCard : Claim7 := { stood := { row := dialogMirrorRow, standIns := [], harness := (true, "5a30a9d73df79acb2ed22f927e245a05f84076631029500d82703babf0e34c9f"), looks := false }, kinds := [], alts := [], laidByText := true, laidKinds := [.data, .data, .data, .data, .data, .data, .data, .pinned], laidTests := true, laidLooks := .later }
def DialogMirrorCardSaid : Prop := Claim7.holds Tryz.pinned (.plain (OpenSpec.ofChange dialogMirrorSpec)) dialogMirrorCard

/-- THE TIED CARD OF 'dialtonelaw17.DialogTalks'. -/
def dialogTalksCard : Claim7 := { stood := { row := dialogTalksRow, standIns := [], harness := (true, "5a30a9d73df79acb2ed22f927e245a05f84076631029500d82703babf0e34c9f"), looks := false }, kinds := [], alts := [], laidByText := true, laidKinds := [.data, .data, .data, .data, .data, .data, .data, .pinned], laidTests := true, laidLooks := .later }
def DialogTalksCardSaid : Prop := Claim7.holds Tryz.pinned (.plain (OpenSpec.ofChange dialogTalksSpec)) dialogTalksCard

/-- THE TIED CARD OF 'dialtonelaw17.DialogEnds'. -/
def dialogEndsCard : Claim7 := { stood := { row := dialogEndsRow, standIns := [], harness := (true, "5a30a9d73df79acb2ed22f927e245a05f84076631029500d82703babf0e34c9f"), looks := false }, kinds := [], alts := [], laidByText := true, laidKinds := [.data, .data, .data, .data, .data, .data, .data, .pinned], laidTests := true, laidLooks := .later }
def DialogEndsCardSaid : Prop := Claim7.holds Tryz.pinned (.plain (OpenSpec.ofChange dialogEndsSpec)) dialogEndsCard

/-- THE TIED CARD OF 'dialtonelaw17.DialogRepeats'. -/
def dialogRepeatsCard : Claim7 := { stood := { row := dialogRepeatsRow, standIns := [], harness := (true, "5a30a9d73df79acb2ed22f927e245a05f84076631029500d82703babf0e34c9f"), looks := false }, kinds := [], alts := [], laidByText := true, laidKinds := [.data, .data, .data, .data, .data, .data, .data, .pinned], laidTests := true, laidLooks := .later }
def DialogRepeatsCardSaid : Prop := Claim7.holds Tryz.pinned (.plain (OpenSpec.ofChange dialogRepeatsSpec)) dialogRepeatsCard

/-- THE TIED CARD OF 'dialtonelaw17.DialogTakes'. -/
def dialogTakesCard : Claim7 := { stood := { row := dialogTakesRow, standIns := [], harness := (true, "5a30a9d73df79acb2ed22f927e245a05f84076631029500d82703babf0e34c9f"), looks := false }, kinds := [], alts := [], laidByText := true, laidKinds := [.data, .data, .data, .data, .data, .data, .data, .pinned], laidTests := true, laidLooks := .later }
def DialogTakesCardSaid : Prop := Claim7.holds Tryz.pinned (.plain (OpenSpec.ofChange dialogTakesSpec)) dialogTakesCard

/-- THE TIED CARD OF 'dialtonelaw17.DialogKnown'. -/
def dialogKnownCard : Claim7 := { stood := { row := dialogKnownRow, standIns := [], harness := (true, "5a30a9d73df79acb2ed22f927e245a05f84076631029500d82703babf0e34c9f"), looks := false }, kinds := [], alts := [], laidByText := true, laidKinds := [.data, .data, .data, .data, .data, .data, .data, .pinned], laidTests := true, laidLooks := .later }
def DialogKnownCardSaid : Prop := Claim7.holds Tryz.pinned (.plain (OpenSpec.ofChange dialogKnownSpec)) dialogKnownCard

/-- THE SECOND FORM's CARD OF 'dialtonelaw17.DialogMakes'. -/
def dialogMakesUptoCard : Claim7 := { stood := { row := dialogMakesUptoRow, standIns := [], harness := (true, "5a30a9d73df79acb2ed22f927e245a05f84076631029500d82703babf0e34c9f"), looks := false }, kinds := [], alts := [], laidByText := true, laidKinds := [.data, .data, .data, .data, .data, .data, .data, .pinned], laidTests := true, laidLooks := .later }
def DialogMakesUptoCardSaid : Prop := Claim7.holds Tryz.pinned (.plain (OpenSpec.upto dialogMakesSpec)) dialogMakesUptoCard

/-- THE SECOND FORM's CARD OF 'dialtonelaw17.DialogMirror'. -/
def dialogMirrorUptoCard : Claim7 := { stood := { row := dialogMirrorUptoRow, standIns := [], harness := (true, "5a30a9d73df79acb2ed22f927e245a05f84076631029500d82703babf0e34c9f"), looks := false }, kinds := [], alts := [], laidByText := true, laidKinds := [.data, .data, .data, .data, .data, .data, .data, .pinned], laidTests := true, laidLooks := .later }
def DialogMirrorUptoCardSaid : Prop := Claim7.holds Tryz.pinned (.plain (OpenSpec.upto dialogMirrorSpec)) dialogMirrorUptoCard

/-- THE SECOND FORM's CARD OF 'dialtonelaw17.DialogTalks'. -/
def dialogTalksUptoCard : Claim7 := { stood := { row := dialogTalksUptoRow, standIns := [], harness := (true, "5a30a9d73df79acb2ed22f927e245a05f84076631029500d82703babf0e34c9f"), looks := false }, kinds := [], alts := [], laidByText := true, laidKinds := [.data, .data, .data, .data, .data, .data, .data, .pinned], laidTests := true, laidLooks := .later }
def DialogTalksUptoCardSaid : Prop := Claim7.holds Tryz.pinned (.plain (OpenSpec.upto dialogTalksSpec)) dialogTalksUptoCard

/-- THE SECOND FORM's CARD OF 'dialtonelaw17.DialogEnds'. -/
def dialogEndsUptoCard : Claim7 := { stood := { row := dialogEndsUptoRow, standIns := [], harness := (true, "5a30a9d73df79acb2ed22f927e245a05f84076631029500d82703babf0e34c9f"), looks := false }, kinds := [], alts := [], laidByText := true, laidKinds := [.data, .data, .data, .data, .data, .data, .data, .pinned], laidTests := true, laidLooks := .later }
def DialogEndsUptoCardSaid : Prop := Claim7.holds Tryz.pinned (.plain (OpenSpec.upto dialogEndsSpec)) dialogEndsUptoCard

/-- THE SECOND FORM's CARD OF 'dialtonelaw17.DialogRepeats'. -/
def dialogRepeatsUptoCard : Claim7 := { stood := { row := dialogRepeatsUptoRow, standIns := [], harness := (true, "5a30a9d73df79acb2ed22f927e245a05f84076631029500d82703babf0e34c9f"), looks := false }, kinds := [], alts := [], laidByText := true, laidKinds := [.data, .data, .data, .data, .data, .data, .data, .pinned], laidTests := true, laidLooks := .later }
def DialogRepeatsUptoCardSaid : Prop := Claim7.holds Tryz.pinned (.plain (OpenSpec.upto dialogRepeatsSpec)) dialogRepeatsUptoCard

/-- THE SECOND FORM's CARD OF 'dialtonelaw17.DialogTakes'. -/
def dialogTakesUptoCard : Claim7 := { stood := { row := dialogTakesUptoRow, standIns := [], harness := (true, "5a30a9d73df79acb2ed22f927e245a05f84076631029500d82703babf0e34c9f"), looks := false }, kinds := [], alts := [], laidByText := true, laidKinds := [.data, .data, .data, .data, .data, .data, .data, .pinned], laidTests := true, laidLooks := .later }
def DialogTakesUptoCardSaid : Prop := Claim7.holds Tryz.pinned (.plain (OpenSpec.upto dialogTakesSpec)) dialogTakesUptoCard

/-- THE SECOND FORM's CARD OF 'dialtonelaw17.DialogKnown'. -/
def dialogKnownUptoCard : Claim7 := { stood := { row := dialogKnownUptoRow, standIns := [], harness := (true, "5a30a9d73df79acb2ed22f927e245a05f84076631029500d82703babf0e34c9f"), looks := false }, kinds := [], alts := [], laidByText := true, laidKinds := [.data, .data, .data, .data, .data, .data, .data, .pinned], laidTests := true, laidLooks := .later }
def DialogKnownUptoCardSaid : Prop := Claim7.holds Tryz.pinned (.plain (OpenSpec.upto dialogKnownSpec)) dialogKnownUptoCard
end Rows
end Go.Proofs.YtfnmkedncfdceaaGreatDoor
