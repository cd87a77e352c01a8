/-
  NARROWER THAN 'FOR EVERY INPUT', by the rows' own cells (each row's printed sentence says how): WholeMatrices: calm, laid.
  DERIVED. THE GIVEN ROWS OF THIS SEAT. 1 by the template 'for every input the law returns true; each argument reads behind the call as it read before'; 0 by the template 'total and deterministic' (their statements: YtdfgmmjcamhdjaaGreatDoorTotals.lean).
  GIVEN WITH THE SEED: the statements are not yours to turn. If you find one false, say at which input.
  Laid BY PROGRAM, IN A SANDBOX (cutbox-rows.mjs): the forced cells as the released guide's own fill.sh prints them over the translation 258bf7bf59dd6d00… (all of the seat's roots in one cut). By AI agents, Wed Nov 11 2026. No macro, syntax, notation, axiom, sorry.
-/
import Derived.Test.YtdfgmmjcamhdjaaGreatDoorChecked
import GoSem.Claim
import GoSem.ClaimJoined
import GoSem.ClaimMapViews
import Derived.JoinedTies
import Derived.KernelRfl
namespace Go.Proofs.YtdfgmmjcamhdjaaGreatDoor
/- THE CELL 'sum', in the pinned program and in every row, IS THE sha256 OF THE DUMP (.gsa) THAT YtdfgmmjcamhdjaaGreatDoorProg.lean LOADS. Nothing in Lean hashes anything: it is a label: what it is worth is what the hold of that sum in a sandbox is worth. -/
noncomputable def Tryz.pinned : Pinned := { name := "ytdfgmmjcamhdjaagreatdoor", sum := "258bf7bf59dd6d009b2a2ba95db344c43e6e8b3eb3101467bce44005be6fea7f", checked := Tryz.checked }
namespace Rows
def none {H : Type} : Left H := { results := [], args := [] }

/- WHAT THE LISTED PACKAGE-LEVEL VARIABLES READ AS WHEN THE CALL BEGINS. Each datum BY PROGRAM (the guide's laid-datum.mjs) off the statement by which the dump's own 'gosem.cut.vars' lays the variable. In a bare row this is a premise. The card (YtdfgmmjcamhdjaaGreatDoorCards.lean) ties it to the program's text. -/
def laid_spoondrift_spoondriftkit_Phases {H : Type} : DataW H := .slice [.lit (.int .i64 1), .lit (.int .i64 3), .lit (.int .i64 5), .lit (.int .i64 6), .lit (.int .i64 7), .lit (.int .i64 8), .lit (.int .i64 9), .lit (.int .i64 11)] []

/-- 'spoondrifttop.WholeMatrices': WHATEVER THE INPUT: true; the input reads as it did. -/
def wholeMatricesSpec : ChangeSpec := { name := "wholeMatrices", fn := fun _ => fun
  | [d] => { results := [.lit (.bool true)], args := [d] }
  | _ => none }
def wholeMatricesRow : OpenClaim := { program := "ytdfgmmjcamhdjaagreatdoor", sum := "258bf7bf59dd6d009b2a2ba95db344c43e6e8b3eb3101467bce44005be6fea7f", func := "spoondrift/spoondrifttop.WholeMatrices", spec := "wholeMatrices", inPlace := ["slices.overlaps[int]"], unfollowed := true, recurses := true, named := ["spoondrift/spoondriftkit.Classical", "spoondrift/spoondriftkit.Phases"], plainKeys := false, apart := false, calm := true, outside := [.timePasses], laid := [("spoondrift/spoondriftkit.Phases", laid_spoondrift_spoondriftkit_Phases)] }
def WholeMatricesSaid : Prop := wholeMatricesRow.holds Tryz.pinned (OpenSpec.ofChange wholeMatricesSpec)

/-- ITS FALSE NEIGHBOUR: 'it returns false'. Refute it at one input. -/
def wholeMatricesWrong : ChangeSpec := { name := "wholeMatrices", fn := fun _ => fun
  | [d] => { results := [.lit (.bool false)], args := [d] }
  | _ => none }
def WholeMatricesWrongFalsely : Prop := wholeMatricesRow.holds Tryz.pinned (OpenSpec.ofChange wholeMatricesWrong)

end Rows
end Go.Proofs.YtdfgmmjcamhdjaaGreatDoor
