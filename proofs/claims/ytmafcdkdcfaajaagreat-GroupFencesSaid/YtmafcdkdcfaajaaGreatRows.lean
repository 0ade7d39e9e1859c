/-
  No cell of these rows narrows 'for every input' (looked for: loops, veiled, ifaces, maps, wideKeys, modest, calm, conditions, laid).
  DERIVED. THE GIVEN ROWS OF THIS SEAT. 3 by the template 'for every input the law returns true; each argument reads behind the call as it read before'; 0 by the template 'total and deterministic' (their statements: YtmafcdkdcfaajaaGreatTotals.lean).
  GIVEN WITH THE SEED: the statements are not yours to turn. If you find one false, say at which input.
  Laid BY PROGRAM, IN A SANDBOX (cutbox-rows.mjs): the forced cells as the released guide's own fill.sh prints them over the translation 28c3e5b9a3eeed09… (all of the seat's roots in one cut). By AI agents, Wed Nov 11 2026. No macro, syntax, notation, axiom, sorry.
-/
import Derived.Test.YtmafcdkdcfaajaaGreatChecked
import GoSem.Claim
import GoSem.ClaimJoined
import GoSem.ClaimMapViews
import Derived.JoinedTies
import Derived.KernelRfl
namespace Go.Proofs.YtmafcdkdcfaajaaGreat
/- THE CELL 'sum', in the pinned program and in every row, IS THE sha256 OF THE DUMP (.gsa) THAT YtmafcdkdcfaajaaGreatProg.lean LOADS. Nothing in Lean hashes anything: it is a label: what it is worth is what the hold of that sum in a sandbox is worth. -/
noncomputable def Tryz.pinned : Pinned := { name := "ytmafcdkdcfaajaagreat", sum := "28c3e5b9a3eeed0990da76a06f9e150cfc936d6ae4ddec91405eed86957f8e49", checked := Tryz.checked }
namespace Rows
def none {H : Type} : Left H := { results := [], args := [] }

/-- 'workflowlaw55.GroupSteps': WHATEVER THE INPUT: true; the input reads as it did. -/
def groupStepsSpec : ChangeSpec := { name := "groupSteps", fn := fun _ => fun
  | [d1, d2] => { results := [.lit (.bool true)], args := [d1, d2] }
  | _ => none }
def groupStepsRow : OpenClaim := { program := "ytmafcdkdcfaajaagreat", sum := "28c3e5b9a3eeed0990da76a06f9e150cfc936d6ae4ddec91405eed86957f8e49", func := "workflow/workflowlaw55.GroupSteps", spec := "groupSteps", unfollowed := true, recurses := true, apart := false }
def GroupStepsSaid : Prop := groupStepsRow.holds Tryz.pinned (OpenSpec.ofChange groupStepsSpec)

/-- ITS FALSE NEIGHBOUR: 'it returns false'. Refute it at one input. -/
def groupStepsWrong : ChangeSpec := { name := "groupSteps", fn := fun _ => fun
  | [d1, d2] => { results := [.lit (.bool false)], args := [d1, d2] }
  | _ => none }
def GroupStepsWrongFalsely : Prop := groupStepsRow.holds Tryz.pinned (OpenSpec.ofChange groupStepsWrong)

/-- 'workflowlaw55.GroupFences': WHATEVER THE INPUT: true; the input reads as it did. -/
def groupFencesSpec : ChangeSpec := { name := "groupFences", fn := fun _ => fun
  | [d1, d2, d3] => { results := [.lit (.bool true)], args := [d1, d2, d3] }
  | _ => none }
def groupFencesRow : OpenClaim := { program := "ytmafcdkdcfaajaagreat", sum := "28c3e5b9a3eeed0990da76a06f9e150cfc936d6ae4ddec91405eed86957f8e49", func := "workflow/workflowlaw55.GroupFences", spec := "groupFences", unfollowed := true, recurses := true, apart := false }
def GroupFencesSaid : Prop := groupFencesRow.holds Tryz.pinned (OpenSpec.ofChange groupFencesSpec)

/-- ITS FALSE NEIGHBOUR: 'it returns false'. Refute it at one input. -/
def groupFencesWrong : ChangeSpec := { name := "groupFences", fn := fun _ => fun
  | [d1, d2, d3] => { results := [.lit (.bool false)], args := [d1, d2, d3] }
  | _ => none }
def GroupFencesWrongFalsely : Prop := groupFencesRow.holds Tryz.pinned (OpenSpec.ofChange groupFencesWrong)

/-- 'workflowlaw55.GroupSafe': WHATEVER THE INPUT: true; the input reads as it did. -/
def groupSafeSpec : ChangeSpec := { name := "groupSafe", fn := fun _ => fun
  | [d1, d2] => { results := [.lit (.bool true)], args := [d1, d2] }
  | _ => none }
def groupSafeRow : OpenClaim := { program := "ytmafcdkdcfaajaagreat", sum := "28c3e5b9a3eeed0990da76a06f9e150cfc936d6ae4ddec91405eed86957f8e49", func := "workflow/workflowlaw55.GroupSafe", spec := "groupSafe", unfollowed := true, recurses := true, apart := false }
def GroupSafeSaid : Prop := groupSafeRow.holds Tryz.pinned (OpenSpec.ofChange groupSafeSpec)

/-- ITS FALSE NEIGHBOUR: 'it returns false'. Refute it at one input. -/
def groupSafeWrong : ChangeSpec := { name := "groupSafe", fn := fun _ => fun
  | [d1, d2] => { results := [.lit (.bool false)], args := [d1, d2] }
  | _ => none }
def GroupSafeWrongFalsely : Prop := groupSafeRow.holds Tryz.pinned (OpenSpec.ofChange groupSafeWrong)

/- THE SECOND FORM. 'bulk': how many values and letters a reading holds, each counted each time it is reached (what is shared counts as often as it is met; a slice's spare places count too). A statement '..UptoSaid' is the law's where the arguments, and the package variables that the reading takes, are together of bulk at most 1048576: NARROWER than '..Said'. Prove '..Said' where nothing that the law and all that it calls make is longer than what came in: it says more and counts as full. Else prove '..UptoSaid'. A law counts once. -/
mutual
def uptoBulk {H : Type} : DataW H → Nat
  | .lit (.string bytes) => bytes.length + 1
  | .lit _ => 1
  | .nil => 1
  | .ptr d => uptoBulk d + 1
  | .slice elems spare => uptoBulkAll elems + uptoBulkAll spare + 1
  | .agg parts => uptoBulkAll parts + 1
  | .iface _ d => uptoBulk d + 1
  | .map entries => uptoBulkEntries entries + 1
  | .held _ => 1
def uptoBulkAll {H : Type} : List (DataW H) → Nat
  | [] => 0
  | d :: r => uptoBulk d + uptoBulkAll r
def uptoBulkEntries {H : Type} : List (Lit × DataW H) → Nat
  | [] => 0
  | x :: r => uptoBulkEntry x + uptoBulkEntries r
def uptoBulkEntry {H : Type} : Lit × DataW H → Nat
  | (.string bytes, d) => bytes.length + uptoBulk d + 1
  | (_, d) => uptoBulk d + 1
 end
def uptoSmall : (H : Type) → List (DataW H) → Bool := fun _ ds => decide (uptoBulkAll ds ≤ 1048576)
def OpenSpec.upto (s : _root_.Go.ChangeSpec) : _root_.Go.OpenSpec := { _root_.Go.OpenSpec.ofChange s with cond := some uptoSmall }

/-- 'workflowlaw55.GroupSteps', WHERE WHAT IT READS IS OF BULK AT MOST 1048576: true; the input reads as it did. -/
def groupStepsUptoRow : OpenClaim := { program := "ytmafcdkdcfaajaagreat", sum := "28c3e5b9a3eeed0990da76a06f9e150cfc936d6ae4ddec91405eed86957f8e49", func := "workflow/workflowlaw55.GroupSteps", spec := "groupSteps", unfollowed := true, recurses := true, apart := false, narrowed := true }
def GroupStepsUptoSaid : Prop := groupStepsUptoRow.holds Tryz.pinned (OpenSpec.upto groupStepsSpec)

/-- 'workflowlaw55.GroupFences', WHERE WHAT IT READS IS OF BULK AT MOST 1048576: true; the input reads as it did. -/
def groupFencesUptoRow : OpenClaim := { program := "ytmafcdkdcfaajaagreat", sum := "28c3e5b9a3eeed0990da76a06f9e150cfc936d6ae4ddec91405eed86957f8e49", func := "workflow/workflowlaw55.GroupFences", spec := "groupFences", unfollowed := true, recurses := true, apart := false, narrowed := true }
def GroupFencesUptoSaid : Prop := groupFencesUptoRow.holds Tryz.pinned (OpenSpec.upto groupFencesSpec)

/-- 'workflowlaw55.GroupSafe', WHERE WHAT IT READS IS OF BULK AT MOST 1048576: true; the input reads as it did. -/
def groupSafeUptoRow : OpenClaim := { program := "ytmafcdkdcfaajaagreat", sum := "28c3e5b9a3eeed0990da76a06f9e150cfc936d6ae4ddec91405eed86957f8e49", func := "workflow/workflowlaw55.GroupSafe", spec := "groupSafe", unfollowed := true, recurses := true, apart := false, narrowed := true }
def GroupSafeUptoSaid : Prop := groupSafeUptoRow.holds Tryz.pinned (OpenSpec.upto groupSafeSpec)

end Rows
end Go.Proofs.YtmafcdkdcfaajaaGreat
