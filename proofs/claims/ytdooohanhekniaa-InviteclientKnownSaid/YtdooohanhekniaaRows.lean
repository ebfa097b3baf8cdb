/-
  No cell of these rows narrows 'for every input' (looked for: loops, veiled, ifaces, maps, wideKeys, modest, calm, conditions, laid).
  DERIVED. THE GIVEN ROWS OF THIS SEAT. 6 by the template 'for every input the law returns true; each argument reads behind the call as it read before'; 0 by the template 'total and deterministic' (their statements: YtdooohanhekniaaTotals.lean).
  GIVEN WITH THE SEED: the statements are not yours to turn. If you find one false, say at which input.
  Laid BY PROGRAM, IN A SANDBOX (cutbox-rows.mjs): the forced cells as the released guide's own fill.sh prints them over the translation 01bdf946a3030a59… (all of the seat's roots in one cut). By AI agents, Wed Nov 11 2026. No macro, syntax, notation, axiom, sorry.
-/
import Derived.Test.YtdooohanhekniaaChecked
import GoSem.Claim
import GoSem.ClaimJoined
import GoSem.ClaimMapViews
import Derived.JoinedTies
import Derived.KernelRfl
namespace Go.Proofs.Ytdooohanhekniaa
/- THE CELL 'sum', in the pinned program and in every row, IS THE sha256 OF THE DUMP (.gsa) THAT YtdooohanhekniaaProg.lean LOADS. Nothing in Lean hashes anything: it is a label: what it is worth is what the hold of that sum in a sandbox is worth. -/
noncomputable def Try.pinned : Pinned := { name := "ytdooohanhekniaa", sum := "01bdf946a3030a59f7fdaf186b9aeeed1efb7523b27b5ba2a1f4d794a8b08fce", checked := Try.checked }
namespace Rows
def none {H : Type} : Left H := { results := [], args := [] }

/-- 'dialtonelaw12.InviteclientTable': WHATEVER THE INPUT: true; the input reads as it did. -/
def inviteclientTableSpec : ChangeSpec := { name := "inviteclientTable", fn := fun _ => fun
  | [] => { results := [.lit (.bool true)], args := [] }
  | _ => none }
def inviteclientTableRow : OpenClaim := { program := "ytdooohanhekniaa", sum := "01bdf946a3030a59f7fdaf186b9aeeed1efb7523b27b5ba2a1f4d794a8b08fce", func := "dialtone/dialtonelaw12.InviteclientTable", spec := "inviteclientTable", unfollowed := true, recurses := true, plainKeys := false, apart := false }
def InviteclientTableSaid : Prop := inviteclientTableRow.holds Try.pinned (OpenSpec.ofChange inviteclientTableSpec)

/-- ITS FALSE NEIGHBOUR: 'it returns false'. Refute it at one input. -/
def inviteclientTableWrong : ChangeSpec := { name := "inviteclientTable", fn := fun _ => fun
  | [] => { results := [.lit (.bool false)], args := [] }
  | _ => none }
def InviteclientTableWrongFalsely : Prop := inviteclientTableRow.holds Try.pinned (OpenSpec.ofChange inviteclientTableWrong)

/-- 'dialtonelaw12.InviteclientUser': WHATEVER THE INPUT: true; the input reads as it did. -/
def inviteclientUserSpec : ChangeSpec := { name := "inviteclientUser", fn := fun _ => fun
  | [d] => { results := [.lit (.bool true)], args := [d] }
  | _ => none }
def inviteclientUserRow : OpenClaim := { program := "ytdooohanhekniaa", sum := "01bdf946a3030a59f7fdaf186b9aeeed1efb7523b27b5ba2a1f4d794a8b08fce", func := "dialtone/dialtonelaw12.InviteclientUser", spec := "inviteclientUser", unfollowed := true, recurses := true, plainKeys := false, apart := false }
def InviteclientUserSaid : Prop := inviteclientUserRow.holds Try.pinned (OpenSpec.ofChange inviteclientUserSpec)

/-- ITS FALSE NEIGHBOUR: 'it returns false'. Refute it at one input. -/
def inviteclientUserWrong : ChangeSpec := { name := "inviteclientUser", fn := fun _ => fun
  | [d] => { results := [.lit (.bool false)], args := [d] }
  | _ => none }
def InviteclientUserWrongFalsely : Prop := inviteclientUserRow.holds Try.pinned (OpenSpec.ofChange inviteclientUserWrong)

/-- 'dialtonelaw12.InviteclientEnds': WHATEVER THE INPUT: true; the input reads as it did. -/
def inviteclientEndsSpec : ChangeSpec := { name := "inviteclientEnds", fn := fun _ => fun
  | [d] => { results := [.lit (.bool true)], args := [d] }
  | _ => none }
def inviteclientEndsRow : OpenClaim := { program := "ytdooohanhekniaa", sum := "01bdf946a3030a59f7fdaf186b9aeeed1efb7523b27b5ba2a1f4d794a8b08fce", func := "dialtone/dialtonelaw12.InviteclientEnds", spec := "inviteclientEnds", unfollowed := true, recurses := true, plainKeys := false, apart := false }
def InviteclientEndsSaid : Prop := inviteclientEndsRow.holds Try.pinned (OpenSpec.ofChange inviteclientEndsSpec)

/-- ITS FALSE NEIGHBOUR: 'it returns false'. Refute it at one input. -/
def inviteclientEndsWrong : ChangeSpec := { name := "inviteclientEnds", fn := fun _ => fun
  | [d] => { results := [.lit (.bool false)], args := [d] }
  | _ => none }
def InviteclientEndsWrongFalsely : Prop := inviteclientEndsRow.holds Try.pinned (OpenSpec.ofChange inviteclientEndsWrong)

/-- 'dialtonelaw12.InviteclientSteps': WHATEVER THE INPUT: true; the input reads as it did. -/
def inviteclientStepsSpec : ChangeSpec := { name := "inviteclientSteps", fn := fun _ => fun
  | [d1, d2, d3] => { results := [.lit (.bool true)], args := [d1, d2, d3] }
  | _ => none }
def inviteclientStepsRow : OpenClaim := { program := "ytdooohanhekniaa", sum := "01bdf946a3030a59f7fdaf186b9aeeed1efb7523b27b5ba2a1f4d794a8b08fce", func := "dialtone/dialtonelaw12.InviteclientSteps", spec := "inviteclientSteps", unfollowed := true, recurses := true, plainKeys := false, apart := false }
def InviteclientStepsSaid : Prop := inviteclientStepsRow.holds Try.pinned (OpenSpec.ofChange inviteclientStepsSpec)

/-- ITS FALSE NEIGHBOUR: 'it returns false'. Refute it at one input. -/
def inviteclientStepsWrong : ChangeSpec := { name := "inviteclientSteps", fn := fun _ => fun
  | [d1, d2, d3] => { results := [.lit (.bool false)], args := [d1, d2, d3] }
  | _ => none }
def InviteclientStepsWrongFalsely : Prop := inviteclientStepsRow.holds Try.pinned (OpenSpec.ofChange inviteclientStepsWrong)

/-- 'dialtonelaw12.InviteclientAlone': WHATEVER THE INPUT: true; the input reads as it did. -/
def inviteclientAloneSpec : ChangeSpec := { name := "inviteclientAlone", fn := fun _ => fun
  | [d] => { results := [.lit (.bool true)], args := [d] }
  | _ => none }
def inviteclientAloneRow : OpenClaim := { program := "ytdooohanhekniaa", sum := "01bdf946a3030a59f7fdaf186b9aeeed1efb7523b27b5ba2a1f4d794a8b08fce", func := "dialtone/dialtonelaw12.InviteclientAlone", spec := "inviteclientAlone", unfollowed := true, recurses := true, plainKeys := false, apart := false }
def InviteclientAloneSaid : Prop := inviteclientAloneRow.holds Try.pinned (OpenSpec.ofChange inviteclientAloneSpec)

/-- ITS FALSE NEIGHBOUR: 'it returns false'. Refute it at one input. -/
def inviteclientAloneWrong : ChangeSpec := { name := "inviteclientAlone", fn := fun _ => fun
  | [d] => { results := [.lit (.bool false)], args := [d] }
  | _ => none }
def InviteclientAloneWrongFalsely : Prop := inviteclientAloneRow.holds Try.pinned (OpenSpec.ofChange inviteclientAloneWrong)

/-- 'dialtonelaw12.InviteclientKnown': WHATEVER THE INPUT: true; the input reads as it did. -/
def inviteclientKnownSpec : ChangeSpec := { name := "inviteclientKnown", fn := fun _ => fun
  | [] => { results := [.lit (.bool true)], args := [] }
  | _ => none }
def inviteclientKnownRow : OpenClaim := { program := "ytdooohanhekniaa", sum := "01bdf946a3030a59f7fdaf186b9aeeed1efb7523b27b5ba2a1f4d794a8b08fce", func := "dialtone/dialtonelaw12.InviteclientKnown", spec := "inviteclientKnown", unfollowed := true, recurses := true, plainKeys := false, apart := false }
def InviteclientKnownSaid : Prop := inviteclientKnownRow.holds Try.pinned (OpenSpec.ofChange inviteclientKnownSpec)

/-- ITS FALSE NEIGHBOUR: 'it returns false'. Refute it at one input. -/
def inviteclientKnownWrong : ChangeSpec := { name := "inviteclientKnown", fn := fun _ => fun
  | [] => { results := [.lit (.bool false)], args := [] }
  | _ => none }
def InviteclientKnownWrongFalsely : Prop := inviteclientKnownRow.holds Try.pinned (OpenSpec.ofChange inviteclientKnownWrong)

/- THE SECOND FORM. 'bulk': how many values and letters a reading holds, each counted each time it is reached (what is shared counts as often as it is met; a slice's spare places count too). A statement '..UptoSaid' is the law's where the arguments, and the package variables that the reading takes, are together of bulk at most 1048576: NARROWER than '..Said'. Prove '..Said' where nothing that the law and all that it calls make is longer than what came in: it says more and counts as full. Else prove '..UptoSaid'. A law counts once. -/
mutual
def uptoBulk {H : Type} : DataW H → Nat
  | .lit (.string bytes) => bytes.length + 1
  | .lit _ => 1
  | .nil => 1
  | .ptr d => uptoBulk d + 1
  | .slice elems spare => uptoBulkAll elems + uptoBulkAll spare + 1
  | .agg parts => uptoBulkAll parts + 1
  | .iface _ d => uptoBulk d + 1
  | .map entries => uptoBulkEntries entries + 1
  | .held _ => 1
def uptoBulkAll {H : Type} : List (DataW H) → Nat
  | [] => 0
  | d :: r => uptoBulk d + uptoBulkAll r
def uptoBulkEntries {H : Type} : List (Lit × DataW H) → Nat
  | [] => 0
  | x :: r => uptoBulkEntry x + uptoBulkEntries r
def uptoBulkEntry {H : Type} : Lit × DataW H → Nat
  | (.string bytes, d) => bytes.length + uptoBulk d + 1
  | (_, d) => uptoBulk d + 1
 end
def uptoSmall : (H : Type) → List (DataW H) → Bool := fun _ ds => decide (uptoBulkAll ds ≤ 1048576)
def OpenSpec.upto (s : _root_.Go.ChangeSpec) : _root_.Go.OpenSpec := { _root_.Go.OpenSpec.ofChange s with cond := some uptoSmall }

/-- 'dialtonelaw12.InviteclientTable', WHERE WHAT IT READS IS OF BULK AT MOST 1048576: true; the input reads as it did. -/
def inviteclientTableUptoRow : OpenClaim := { program := "ytdooohanhekniaa", sum := "01bdf946a3030a59f7fdaf186b9aeeed1efb7523b27b5ba2a1f4d794a8b08fce", func := "dialtone/dialtonelaw12.InviteclientTable", spec := "inviteclientTable", unfollowed := true, recurses := true, plainKeys := false, apart := false, narrowed := true }
def InviteclientTableUptoSaid : Prop := inviteclientTableUptoRow.holds Try.pinned (OpenSpec.upto inviteclientTableSpec)

/-- 'dialtonelaw12.InviteclientUser', WHERE WHAT IT READS IS OF BULK AT MOST 1048576: true; the input reads as it did. -/
def inviteclientUserUptoRow : OpenClaim := { program := "ytdooohanhekniaa", sum := "01bdf946a3030a59f7fdaf186b9aeeed1efb7523b27b5ba2a1f4d794a8b08fce", func := "dialtone/dialtonelaw12.InviteclientUser", spec := "inviteclientUser", unfollowed := true, recurses := true, plainKeys := false, apart := false, narrowed := true }
def InviteclientUserUptoSaid : Prop := inviteclientUserUptoRow.holds Try.pinned (OpenSpec.upto inviteclientUserSpec)

/-- 'dialtonelaw12.InviteclientEnds', WHERE WHAT IT READS IS OF BULK AT MOST 1048576: true; the input reads as it did. -/
def inviteclientEndsUptoRow : OpenClaim := { program := "ytdooohanhekniaa", sum := "01bdf946a3030a59f7fdaf186b9aeeed1efb7523b27b5ba2a1f4d794a8b08fce", func := "dialtone/dialtonelaw12.InviteclientEnds", spec := "inviteclientEnds", unfollowed := true, recurses := true, plainKeys := false, apart := false, narrowed := true }
def InviteclientEndsUptoSaid : Prop := inviteclientEndsUptoRow.holds Try.pinned (OpenSpec.upto inviteclientEndsSpec)

/-- 'dialtonelaw12.InviteclientSteps', WHERE WHAT IT READS IS OF BULK AT MOST 1048576: true; the input reads as it did. -/
def inviteclientStepsUptoRow : OpenClaim := { program := "ytdooohanhekniaa", sum := "01bdf946a3030a59f7fdaf186b9aeeed1efb7523b27b5ba2a1f4d794a8b08fce", func := "dialtone/dialtonelaw12.InviteclientSteps", spec := "inviteclientSteps", unfollowed := true, recurses := true, plainKeys := false, apart := false, narrowed := true }
def InviteclientStepsUptoSaid : Prop := inviteclientStepsUptoRow.holds Try.pinned (OpenSpec.upto inviteclientStepsSpec)

/-- 'dialtonelaw12.InviteclientAlone', WHERE WHAT IT READS IS OF BULK AT MOST 1048576: true; the input reads as it did. -/
def inviteclientAloneUptoRow : OpenClaim := { program := "ytdooohanhekniaa", sum := "01bdf946a3030a59f7fdaf186b9aeeed1efb7523b27b5ba2a1f4d794a8b08fce", func := "dialtone/dialtonelaw12.InviteclientAlone", spec := "inviteclientAlone", unfollowed := true, recurses := true, plainKeys := false, apart := false, narrowed := true }
def InviteclientAloneUptoSaid : Prop := inviteclientAloneUptoRow.holds Try.pinned (OpenSpec.upto inviteclientAloneSpec)

/-- 'dialtonelaw12.InviteclientKnown', WHERE WHAT IT READS IS OF BULK AT MOST 1048576: true; the input reads as it did. -/
def inviteclientKnownUptoRow : OpenClaim := { program := "ytdooohanhekniaa", sum := "01bdf946a3030a59f7fdaf186b9aeeed1efb7523b27b5ba2a1f4d794a8b08fce", func := "dialtone/dialtonelaw12.InviteclientKnown", spec := "inviteclientKnown", unfollowed := true, recurses := true, plainKeys := false, apart := false, narrowed := true }
def InviteclientKnownUptoSaid : Prop := inviteclientKnownUptoRow.holds Try.pinned (OpenSpec.upto inviteclientKnownSpec)

end Rows
end Go.Proofs.Ytdooohanhekniaa
