/-
  No cell of these rows narrows 'for every input' (looked for: loops, veiled, ifaces, maps, wideKeys, modest, calm, conditions, laid).
  DERIVED. THE GIVEN ROWS OF THIS SEAT. 6 by the template 'for every input the law returns true; each argument reads behind the call as it read before'; 0 by the template 'total and deterministic' (their statements: YtgjhnaionalbpaaTotals.lean).
  GIVEN WITH THE SEED: the statements are not yours to turn. If you find one false, say at which input.
  Laid BY PROGRAM, IN A SANDBOX (cutbox-rows.mjs): the forced cells as the released guide's own fill.sh prints them over the translation 9730574535a7d644… (all of the seat's roots in one cut). By AI agents, Wed Nov 11 2026. No macro, syntax, notation, axiom, sorry.
-/
import Derived.Test.YtgjhnaionalbpaaChecked
import GoSem.Claim
import GoSem.ClaimJoined
import GoSem.ClaimMapViews
import Derived.JoinedTies
import Derived.KernelRfl
namespace Go.Proofs.Ytgjhnaionalbpaa
/- THE CELL 'sum', in the pinned program and in every row, IS THE sha256 OF THE DUMP (.gsa) THAT YtgjhnaionalbpaaProg.lean LOADS. Nothing in Lean hashes anything: it is a label: what it is worth is what the hold of that sum in a sandbox is worth. -/
noncomputable def Try.pinned : Pinned := { name := "ytgjhnaionalbpaa", sum := "9730574535a7d644ec1481e20e5090a79fa968851dd7f8f16496e10cddccc7d3", checked := Try.checked }
namespace Rows
def none {H : Type} : Left H := { results := [], args := [] }

/-- 'dialtonelaw14.InviteserverTable': WHATEVER THE INPUT: true; the input reads as it did. -/
def inviteserverTableSpec : ChangeSpec := { name := "inviteserverTable", fn := fun _ => fun
  | [] => { results := [.lit (.bool true)], args := [] }
  | _ => none }
def inviteserverTableRow : OpenClaim := { program := "ytgjhnaionalbpaa", sum := "9730574535a7d644ec1481e20e5090a79fa968851dd7f8f16496e10cddccc7d3", func := "dialtone/dialtonelaw14.InviteserverTable", spec := "inviteserverTable", apart := false }
def InviteserverTableSaid : Prop := inviteserverTableRow.holds Try.pinned (OpenSpec.ofChange inviteserverTableSpec)

/-- ITS FALSE NEIGHBOUR: 'it returns false'. Refute it at one input. -/
def inviteserverTableWrong : ChangeSpec := { name := "inviteserverTable", fn := fun _ => fun
  | [] => { results := [.lit (.bool false)], args := [] }
  | _ => none }
def InviteserverTableWrongFalsely : Prop := inviteserverTableRow.holds Try.pinned (OpenSpec.ofChange inviteserverTableWrong)

/-- 'dialtonelaw14.InviteserverAnswers': WHATEVER THE INPUT: true; the input reads as it did. -/
def inviteserverAnswersSpec : ChangeSpec := { name := "inviteserverAnswers", fn := fun _ => fun
  | [d] => { results := [.lit (.bool true)], args := [d] }
  | _ => none }
def inviteserverAnswersRow : OpenClaim := { program := "ytgjhnaionalbpaa", sum := "9730574535a7d644ec1481e20e5090a79fa968851dd7f8f16496e10cddccc7d3", func := "dialtone/dialtonelaw14.InviteserverAnswers", spec := "inviteserverAnswers", apart := false }
def InviteserverAnswersSaid : Prop := inviteserverAnswersRow.holds Try.pinned (OpenSpec.ofChange inviteserverAnswersSpec)

/-- ITS FALSE NEIGHBOUR: 'it returns false'. Refute it at one input. -/
def inviteserverAnswersWrong : ChangeSpec := { name := "inviteserverAnswers", fn := fun _ => fun
  | [d] => { results := [.lit (.bool false)], args := [d] }
  | _ => none }
def InviteserverAnswersWrongFalsely : Prop := inviteserverAnswersRow.holds Try.pinned (OpenSpec.ofChange inviteserverAnswersWrong)

/-- 'dialtonelaw14.InviteserverEnds': WHATEVER THE INPUT: true; the input reads as it did. -/
def inviteserverEndsSpec : ChangeSpec := { name := "inviteserverEnds", fn := fun _ => fun
  | [d] => { results := [.lit (.bool true)], args := [d] }
  | _ => none }
def inviteserverEndsRow : OpenClaim := { program := "ytgjhnaionalbpaa", sum := "9730574535a7d644ec1481e20e5090a79fa968851dd7f8f16496e10cddccc7d3", func := "dialtone/dialtonelaw14.InviteserverEnds", spec := "inviteserverEnds", apart := false }
def InviteserverEndsSaid : Prop := inviteserverEndsRow.holds Try.pinned (OpenSpec.ofChange inviteserverEndsSpec)

/-- ITS FALSE NEIGHBOUR: 'it returns false'. Refute it at one input. -/
def inviteserverEndsWrong : ChangeSpec := { name := "inviteserverEnds", fn := fun _ => fun
  | [d] => { results := [.lit (.bool false)], args := [d] }
  | _ => none }
def InviteserverEndsWrongFalsely : Prop := inviteserverEndsRow.holds Try.pinned (OpenSpec.ofChange inviteserverEndsWrong)

/-- 'dialtonelaw14.InviteserverSteps': WHATEVER THE INPUT: true; the input reads as it did. -/
def inviteserverStepsSpec : ChangeSpec := { name := "inviteserverSteps", fn := fun _ => fun
  | [d1, d2, d3] => { results := [.lit (.bool true)], args := [d1, d2, d3] }
  | _ => none }
def inviteserverStepsRow : OpenClaim := { program := "ytgjhnaionalbpaa", sum := "9730574535a7d644ec1481e20e5090a79fa968851dd7f8f16496e10cddccc7d3", func := "dialtone/dialtonelaw14.InviteserverSteps", spec := "inviteserverSteps", apart := false }
def InviteserverStepsSaid : Prop := inviteserverStepsRow.holds Try.pinned (OpenSpec.ofChange inviteserverStepsSpec)

/-- ITS FALSE NEIGHBOUR: 'it returns false'. Refute it at one input. -/
def inviteserverStepsWrong : ChangeSpec := { name := "inviteserverSteps", fn := fun _ => fun
  | [d1, d2, d3] => { results := [.lit (.bool false)], args := [d1, d2, d3] }
  | _ => none }
def InviteserverStepsWrongFalsely : Prop := inviteserverStepsRow.holds Try.pinned (OpenSpec.ofChange inviteserverStepsWrong)

/-- 'dialtonelaw14.InviteserverRepeats': WHATEVER THE INPUT: true; the input reads as it did. -/
def inviteserverRepeatsSpec : ChangeSpec := { name := "inviteserverRepeats", fn := fun _ => fun
  | [d1, d2] => { results := [.lit (.bool true)], args := [d1, d2] }
  | _ => none }
def inviteserverRepeatsRow : OpenClaim := { program := "ytgjhnaionalbpaa", sum := "9730574535a7d644ec1481e20e5090a79fa968851dd7f8f16496e10cddccc7d3", func := "dialtone/dialtonelaw14.InviteserverRepeats", spec := "inviteserverRepeats", apart := false }
def InviteserverRepeatsSaid : Prop := inviteserverRepeatsRow.holds Try.pinned (OpenSpec.ofChange inviteserverRepeatsSpec)

/-- ITS FALSE NEIGHBOUR: 'it returns false'. Refute it at one input. -/
def inviteserverRepeatsWrong : ChangeSpec := { name := "inviteserverRepeats", fn := fun _ => fun
  | [d1, d2] => { results := [.lit (.bool false)], args := [d1, d2] }
  | _ => none }
def InviteserverRepeatsWrongFalsely : Prop := inviteserverRepeatsRow.holds Try.pinned (OpenSpec.ofChange inviteserverRepeatsWrong)

/-- 'dialtonelaw14.InviteserverKnown': WHATEVER THE INPUT: true; the input reads as it did. -/
def inviteserverKnownSpec : ChangeSpec := { name := "inviteserverKnown", fn := fun _ => fun
  | [] => { results := [.lit (.bool true)], args := [] }
  | _ => none }
def inviteserverKnownRow : OpenClaim := { program := "ytgjhnaionalbpaa", sum := "9730574535a7d644ec1481e20e5090a79fa968851dd7f8f16496e10cddccc7d3", func := "dialtone/dialtonelaw14.InviteserverKnown", spec := "inviteserverKnown", apart := false }
def InviteserverKnownSaid : Prop := inviteserverKnownRow.holds Try.pinned (OpenSpec.ofChange inviteserverKnownSpec)

/-- ITS FALSE NEIGHBOUR: 'it returns false'. Refute it at one input. -/
def inviteserverKnownWrong : ChangeSpec := { name := "inviteserverKnown", fn := fun _ => fun
  | [] => { results := [.lit (.bool false)], args := [] }
  | _ => none }
def InviteserverKnownWrongFalsely : Prop := inviteserverKnownRow.holds Try.pinned (OpenSpec.ofChange inviteserverKnownWrong)

/- THE SECOND FORM. 'bulk': how many values and letters a reading holds, each counted each time it is reached (what is shared counts as often as it is met; a slice's spare places count too). A statement '..UptoSaid' is the law's where the arguments, and the package variables that the reading takes, are together of bulk at most 1048576: NARROWER than '..Said'. Prove '..Said' where nothing that the law and all that it calls make is longer than what came in: it says more and counts as full. Else prove '..UptoSaid'. A law counts once. -/
mutual
def uptoBulk {H : Type} : DataW H → Nat
  | .lit (.string bytes) => bytes.length + 1
  | .lit _ => 1
  | .nil => 1
  | .ptr d => uptoBulk d + 1
  | .slice elems spare => uptoBulkAll elems + uptoBulkAll spare + 1
  | .agg parts => uptoBulkAll parts + 1
  | .iface _ d => uptoBulk d + 1
  | .map entries => uptoBulkEntries entries + 1
  | .held _ => 1
def uptoBulkAll {H : Type} : List (DataW H) → Nat
  | [] => 0
  | d :: r => uptoBulk d + uptoBulkAll r
def uptoBulkEntries {H : Type} : List (Lit × DataW H) → Nat
  | [] => 0
  | x :: r => uptoBulkEntry x + uptoBulkEntries r
def uptoBulkEntry {H : Type} : Lit × DataW H → Nat
  | (.string bytes, d) => bytes.length + uptoBulk d + 1
  | (_, d) => uptoBulk d + 1
 end
def uptoSmall : (H : Type) → List (DataW H) → Bool := fun _ ds => decide (uptoBulkAll ds ≤ 1048576)
def OpenSpec.upto (s : _root_.Go.ChangeSpec) : _root_.Go.OpenSpec := { _root_.Go.OpenSpec.ofChange s with cond := some uptoSmall }

/-- 'dialtonelaw14.InviteserverTable', WHERE WHAT IT READS IS OF BULK AT MOST 1048576: true; the input reads as it did. -/
def inviteserverTableUptoRow : OpenClaim := { program := "ytgjhnaionalbpaa", sum := "9730574535a7d644ec1481e20e5090a79fa968851dd7f8f16496e10cddccc7d3", func := "dialtone/dialtonelaw14.InviteserverTable", spec := "inviteserverTable", apart := false, narrowed := true }
def InviteserverTableUptoSaid : Prop := inviteserverTableUptoRow.holds Try.pinned (OpenSpec.upto inviteserverTableSpec)

/-- 'dialtonelaw14.InviteserverAnswers', WHERE WHAT IT READS IS OF BULK AT MOST 1048576: true; the input reads as it did. -/
def inviteserverAnswersUptoRow : OpenClaim := { program := "ytgjhnaionalbpaa", sum := "9730574535a7d644ec1481e20e5090a79fa968851dd7f8f16496e10cddccc7d3", func := "dialtone/dialtonelaw14.InviteserverAnswers", spec := "inviteserverAnswers", apart := false, narrowed := true }
def InviteserverAnswersUptoSaid : Prop := inviteserverAnswersUptoRow.holds Try.pinned (OpenSpec.upto inviteserverAnswersSpec)

/-- 'dialtonelaw14.InviteserverEnds', WHERE WHAT IT READS IS OF BULK AT MOST 1048576: true; the input reads as it did. -/
def inviteserverEndsUptoRow : OpenClaim := { program := "ytgjhnaionalbpaa", sum := "9730574535a7d644ec1481e20e5090a79fa968851dd7f8f16496e10cddccc7d3", func := "dialtone/dialtonelaw14.InviteserverEnds", spec := "inviteserverEnds", apart := false, narrowed := true }
def InviteserverEndsUptoSaid : Prop := inviteserverEndsUptoRow.holds Try.pinned (OpenSpec.upto inviteserverEndsSpec)

/-- 'dialtonelaw14.InviteserverSteps', WHERE WHAT IT READS IS OF BULK AT MOST 1048576: true; the input reads as it did. -/
def inviteserverStepsUptoRow : OpenClaim := { program := "ytgjhnaionalbpaa", sum := "9730574535a7d644ec1481e20e5090a79fa968851dd7f8f16496e10cddccc7d3", func := "dialtone/dialtonelaw14.InviteserverSteps", spec := "inviteserverSteps", apart := false, narrowed := true }
def InviteserverStepsUptoSaid : Prop := inviteserverStepsUptoRow.holds Try.pinned (OpenSpec.upto inviteserverStepsSpec)

/-- 'dialtonelaw14.InviteserverRepeats', WHERE WHAT IT READS IS OF BULK AT MOST 1048576: true; the input reads as it did. -/
def inviteserverRepeatsUptoRow : OpenClaim := { program := "ytgjhnaionalbpaa", sum := "9730574535a7d644ec1481e20e5090a79fa968851dd7f8f16496e10cddccc7d3", func := "dialtone/dialtonelaw14.InviteserverRepeats", spec := "inviteserverRepeats", apart := false, narrowed := true }
def InviteserverRepeatsUptoSaid : Prop := inviteserverRepeatsUptoRow.holds Try.pinned (OpenSpec.upto inviteserverRepeatsSpec)

/-- 'dialtonelaw14.InviteserverKnown', WHERE WHAT IT READS IS OF BULK AT MOST 1048576: true; the input reads as it did. -/
def inviteserverKnownUptoRow : OpenClaim := { program := "ytgjhnaionalbpaa", sum := "9730574535a7d644ec1481e20e5090a79fa968851dd7f8f16496e10cddccc7d3", func := "dialtone/dialtonelaw14.InviteserverKnown", spec := "inviteserverKnown", apart := false, narrowed := true }
def InviteserverKnownUptoSaid : Prop := inviteserverKnownUptoRow.holds Try.pinned (OpenSpec.upto inviteserverKnownSpec)

end Rows
end Go.Proofs.Ytgjhnaionalbpaa
