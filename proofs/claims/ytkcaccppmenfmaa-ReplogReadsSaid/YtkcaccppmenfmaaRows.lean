/-
  No cell of these rows narrows 'for every input' (looked for: loops, veiled, ifaces, maps, wideKeys, modest, calm, conditions, laid).
  DERIVED. THE GIVEN ROWS OF THIS SEAT. 9 by the template 'for every input the law returns true; each argument reads behind the call as it read before'; 0 by the template 'total and deterministic' (their statements: YtkcaccppmenfmaaTotals.lean).
  GIVEN WITH THE SEED: the statements are not yours to turn. If you find one false, say at which input.
  Laid BY PROGRAM, IN A SANDBOX (cutbox-rows.mjs): the forced cells as the released guide's own fill.sh prints them over the translation 0beba2c3cfa6dbef… (all of the seat's roots in one cut). By AI agents, Wed Nov 11 2026. No macro, syntax, notation, axiom, sorry.
-/
import Derived.Test.YtkcaccppmenfmaaChecked
import GoSem.Claim
import GoSem.ClaimJoined
import GoSem.ClaimMapViews
import Derived.JoinedTies
import Derived.KernelRfl
namespace Go.Proofs.Ytkcaccppmenfmaa
/- THE CELL 'sum', in the pinned program and in every row, IS THE sha256 OF THE DUMP (.gsa) THAT YtkcaccppmenfmaaProg.lean LOADS. Nothing in Lean hashes anything: it is a label: what it is worth is what the hold of that sum in a sandbox is worth. -/
noncomputable def Try.pinned : Pinned := { name := "ytkcaccppmenfmaa", sum := "0beba2c3cfa6dbefb430ec006e2bd3f06240182d3152cf9871320681b6520d34", checked := Try.checked }
namespace Rows
def none {H : Type} : Left H := { results := [], args := [] }

/-- 'workflowlaw52.ReplogAccepts': WHATEVER THE INPUT: true; the input reads as it did. -/
def replogAcceptsSpec : ChangeSpec := { name := "replogAccepts", fn := fun _ => fun
  | [d1, d2] => { results := [.lit (.bool true)], args := [d1, d2] }
  | _ => none }
def replogAcceptsRow : OpenClaim := { program := "ytkcaccppmenfmaa", sum := "0beba2c3cfa6dbefb430ec006e2bd3f06240182d3152cf9871320681b6520d34", func := "workflow/workflowlaw52.ReplogAccepts", spec := "replogAccepts", apart := false }
def ReplogAcceptsSaid : Prop := replogAcceptsRow.holds Try.pinned (OpenSpec.ofChange replogAcceptsSpec)

/-- ITS FALSE NEIGHBOUR: 'it returns false'. Refute it at one input. -/
def replogAcceptsWrong : ChangeSpec := { name := "replogAccepts", fn := fun _ => fun
  | [d1, d2] => { results := [.lit (.bool false)], args := [d1, d2] }
  | _ => none }
def ReplogAcceptsWrongFalsely : Prop := replogAcceptsRow.holds Try.pinned (OpenSpec.ofChange replogAcceptsWrong)

/-- 'workflowlaw52.ReplogKeeps': WHATEVER THE INPUT: true; the input reads as it did. -/
def replogKeepsSpec : ChangeSpec := { name := "replogKeeps", fn := fun _ => fun
  | [d1, d2] => { results := [.lit (.bool true)], args := [d1, d2] }
  | _ => none }
def replogKeepsRow : OpenClaim := { program := "ytkcaccppmenfmaa", sum := "0beba2c3cfa6dbefb430ec006e2bd3f06240182d3152cf9871320681b6520d34", func := "workflow/workflowlaw52.ReplogKeeps", spec := "replogKeeps", apart := false }
def ReplogKeepsSaid : Prop := replogKeepsRow.holds Try.pinned (OpenSpec.ofChange replogKeepsSpec)

/-- ITS FALSE NEIGHBOUR: 'it returns false'. Refute it at one input. -/
def replogKeepsWrong : ChangeSpec := { name := "replogKeeps", fn := fun _ => fun
  | [d1, d2] => { results := [.lit (.bool false)], args := [d1, d2] }
  | _ => none }
def ReplogKeepsWrongFalsely : Prop := replogKeepsRow.holds Try.pinned (OpenSpec.ofChange replogKeepsWrong)

/-- 'workflowlaw52.ReplogLeads': WHATEVER THE INPUT: true; the input reads as it did. -/
def replogLeadsSpec : ChangeSpec := { name := "replogLeads", fn := fun _ => fun
  | [d1, d2, d3] => { results := [.lit (.bool true)], args := [d1, d2, d3] }
  | _ => none }
def replogLeadsRow : OpenClaim := { program := "ytkcaccppmenfmaa", sum := "0beba2c3cfa6dbefb430ec006e2bd3f06240182d3152cf9871320681b6520d34", func := "workflow/workflowlaw52.ReplogLeads", spec := "replogLeads", apart := false }
def ReplogLeadsSaid : Prop := replogLeadsRow.holds Try.pinned (OpenSpec.ofChange replogLeadsSpec)

/-- ITS FALSE NEIGHBOUR: 'it returns false'. Refute it at one input. -/
def replogLeadsWrong : ChangeSpec := { name := "replogLeads", fn := fun _ => fun
  | [d1, d2, d3] => { results := [.lit (.bool false)], args := [d1, d2, d3] }
  | _ => none }
def ReplogLeadsWrongFalsely : Prop := replogLeadsRow.holds Try.pinned (OpenSpec.ofChange replogLeadsWrong)

/-- 'workflowlaw52.ReplogReads': WHATEVER THE INPUT: true; the input reads as it did. -/
def replogReadsSpec : ChangeSpec := { name := "replogReads", fn := fun _ => fun
  | [d1, d2] => { results := [.lit (.bool true)], args := [d1, d2] }
  | _ => none }
def replogReadsRow : OpenClaim := { program := "ytkcaccppmenfmaa", sum := "0beba2c3cfa6dbefb430ec006e2bd3f06240182d3152cf9871320681b6520d34", func := "workflow/workflowlaw52.ReplogReads", spec := "replogReads", unfollowed := true, recurses := true, apart := false }
def ReplogReadsSaid : Prop := replogReadsRow.holds Try.pinned (OpenSpec.ofChange replogReadsSpec)

/-- ITS FALSE NEIGHBOUR: 'it returns false'. Refute it at one input. -/
def replogReadsWrong : ChangeSpec := { name := "replogReads", fn := fun _ => fun
  | [d1, d2] => { results := [.lit (.bool false)], args := [d1, d2] }
  | _ => none }
def ReplogReadsWrongFalsely : Prop := replogReadsRow.holds Try.pinned (OpenSpec.ofChange replogReadsWrong)

/-- 'workflowlaw54.BallotNewer': WHATEVER THE INPUT: true; the input reads as it did. -/
def ballotNewerSpec : ChangeSpec := { name := "ballotNewer", fn := fun _ => fun
  | [d1, d2, d3, d4] => { results := [.lit (.bool true)], args := [d1, d2, d3, d4] }
  | _ => none }
def ballotNewerRow : OpenClaim := { program := "ytkcaccppmenfmaa", sum := "0beba2c3cfa6dbefb430ec006e2bd3f06240182d3152cf9871320681b6520d34", func := "workflow/workflowlaw54.BallotNewer", spec := "ballotNewer", apart := false }
def BallotNewerSaid : Prop := ballotNewerRow.holds Try.pinned (OpenSpec.ofChange ballotNewerSpec)

/-- ITS FALSE NEIGHBOUR: 'it returns false'. Refute it at one input. -/
def ballotNewerWrong : ChangeSpec := { name := "ballotNewer", fn := fun _ => fun
  | [d1, d2, d3, d4] => { results := [.lit (.bool false)], args := [d1, d2, d3, d4] }
  | _ => none }
def BallotNewerWrongFalsely : Prop := ballotNewerRow.holds Try.pinned (OpenSpec.ofChange ballotNewerWrong)

/-- 'workflowlaw54.BallotAsk': WHATEVER THE INPUT: true; the input reads as it did. -/
def ballotAskSpec : ChangeSpec := { name := "ballotAsk", fn := fun _ => fun
  | [d1, d2, d3, d4, d5] => { results := [.lit (.bool true)], args := [d1, d2, d3, d4, d5] }
  | _ => none }
def ballotAskRow : OpenClaim := { program := "ytkcaccppmenfmaa", sum := "0beba2c3cfa6dbefb430ec006e2bd3f06240182d3152cf9871320681b6520d34", func := "workflow/workflowlaw54.BallotAsk", spec := "ballotAsk", apart := false }
def BallotAskSaid : Prop := ballotAskRow.holds Try.pinned (OpenSpec.ofChange ballotAskSpec)

/-- ITS FALSE NEIGHBOUR: 'it returns false'. Refute it at one input. -/
def ballotAskWrong : ChangeSpec := { name := "ballotAsk", fn := fun _ => fun
  | [d1, d2, d3, d4, d5] => { results := [.lit (.bool false)], args := [d1, d2, d3, d4, d5] }
  | _ => none }
def BallotAskWrongFalsely : Prop := ballotAskRow.holds Try.pinned (OpenSpec.ofChange ballotAskWrong)

/-- 'workflowlaw54.BallotStand': WHATEVER THE INPUT: true; the input reads as it did. -/
def ballotStandSpec : ChangeSpec := { name := "ballotStand", fn := fun _ => fun
  | [d1, d2] => { results := [.lit (.bool true)], args := [d1, d2] }
  | _ => none }
def ballotStandRow : OpenClaim := { program := "ytkcaccppmenfmaa", sum := "0beba2c3cfa6dbefb430ec006e2bd3f06240182d3152cf9871320681b6520d34", func := "workflow/workflowlaw54.BallotStand", spec := "ballotStand", apart := false }
def BallotStandSaid : Prop := ballotStandRow.holds Try.pinned (OpenSpec.ofChange ballotStandSpec)

/-- ITS FALSE NEIGHBOUR: 'it returns false'. Refute it at one input. -/
def ballotStandWrong : ChangeSpec := { name := "ballotStand", fn := fun _ => fun
  | [d1, d2] => { results := [.lit (.bool false)], args := [d1, d2] }
  | _ => none }
def BallotStandWrongFalsely : Prop := ballotStandRow.holds Try.pinned (OpenSpec.ofChange ballotStandWrong)

/-- 'workflowlaw54.BallotOnce': WHATEVER THE INPUT: true; the input reads as it did. -/
def ballotOnceSpec : ChangeSpec := { name := "ballotOnce", fn := fun _ => fun
  | [d1, d2] => { results := [.lit (.bool true)], args := [d1, d2] }
  | _ => none }
def ballotOnceRow : OpenClaim := { program := "ytkcaccppmenfmaa", sum := "0beba2c3cfa6dbefb430ec006e2bd3f06240182d3152cf9871320681b6520d34", func := "workflow/workflowlaw54.BallotOnce", spec := "ballotOnce", apart := false }
def BallotOnceSaid : Prop := ballotOnceRow.holds Try.pinned (OpenSpec.ofChange ballotOnceSpec)

/-- ITS FALSE NEIGHBOUR: 'it returns false'. Refute it at one input. -/
def ballotOnceWrong : ChangeSpec := { name := "ballotOnce", fn := fun _ => fun
  | [d1, d2] => { results := [.lit (.bool false)], args := [d1, d2] }
  | _ => none }
def BallotOnceWrongFalsely : Prop := ballotOnceRow.holds Try.pinned (OpenSpec.ofChange ballotOnceWrong)

/-- 'workflowlaw54.BallotUpToDate': WHATEVER THE INPUT: true; the input reads as it did. -/
def ballotUpToDateSpec : ChangeSpec := { name := "ballotUpToDate", fn := fun _ => fun
  | [d1, d2, d3, d4] => { results := [.lit (.bool true)], args := [d1, d2, d3, d4] }
  | _ => none }
def ballotUpToDateRow : OpenClaim := { program := "ytkcaccppmenfmaa", sum := "0beba2c3cfa6dbefb430ec006e2bd3f06240182d3152cf9871320681b6520d34", func := "workflow/workflowlaw54.BallotUpToDate", spec := "ballotUpToDate", apart := false }
def BallotUpToDateSaid : Prop := ballotUpToDateRow.holds Try.pinned (OpenSpec.ofChange ballotUpToDateSpec)

/-- ITS FALSE NEIGHBOUR: 'it returns false'. Refute it at one input. -/
def ballotUpToDateWrong : ChangeSpec := { name := "ballotUpToDate", fn := fun _ => fun
  | [d1, d2, d3, d4] => { results := [.lit (.bool false)], args := [d1, d2, d3, d4] }
  | _ => none }
def BallotUpToDateWrongFalsely : Prop := ballotUpToDateRow.holds Try.pinned (OpenSpec.ofChange ballotUpToDateWrong)

/- THE SECOND FORM. 'bulk': how many values and letters a reading holds, each counted each time it is reached (what is shared counts as often as it is met; a slice's spare places count too). A statement '..UptoSaid' is the law's where the arguments, and the package variables that the reading takes, are together of bulk at most 1048576: NARROWER than '..Said'. Prove '..Said' where nothing that the law and all that it calls make is longer than what came in: it says more and counts as full. Else prove '..UptoSaid'. A law counts once. -/
mutual
def uptoBulk {H : Type} : DataW H → Nat
  | .lit (.string bytes) => bytes.length + 1
  | .lit _ => 1
  | .nil => 1
  | .ptr d => uptoBulk d + 1
  | .slice elems spare => uptoBulkAll elems + uptoBulkAll spare + 1
  | .agg parts => uptoBulkAll parts + 1
  | .iface _ d => uptoBulk d + 1
  | .map entries => uptoBulkEntries entries + 1
  | .held _ => 1
def uptoBulkAll {H : Type} : List (DataW H) → Nat
  | [] => 0
  | d :: r => uptoBulk d + uptoBulkAll r
def uptoBulkEntries {H : Type} : List (Lit × DataW H) → Nat
  | [] => 0
  | x :: r => uptoBulkEntry x + uptoBulkEntries r
def uptoBulkEntry {H : Type} : Lit × DataW H → Nat
  | (.string bytes, d) => bytes.length + uptoBulk d + 1
  | (_, d) => uptoBulk d + 1
 end
def uptoSmall : (H : Type) → List (DataW H) → Bool := fun _ ds => decide (uptoBulkAll ds ≤ 1048576)
def OpenSpec.upto (s : _root_.Go.ChangeSpec) : _root_.Go.OpenSpec := { _root_.Go.OpenSpec.ofChange s with cond := some uptoSmall }

/-- 'workflowlaw52.ReplogAccepts', WHERE WHAT IT READS IS OF BULK AT MOST 1048576: true; the input reads as it did. -/
def replogAcceptsUptoRow : OpenClaim := { program := "ytkcaccppmenfmaa", sum := "0beba2c3cfa6dbefb430ec006e2bd3f06240182d3152cf9871320681b6520d34", func := "workflow/workflowlaw52.ReplogAccepts", spec := "replogAccepts", apart := false, narrowed := true }
def ReplogAcceptsUptoSaid : Prop := replogAcceptsUptoRow.holds Try.pinned (OpenSpec.upto replogAcceptsSpec)

/-- 'workflowlaw52.ReplogKeeps', WHERE WHAT IT READS IS OF BULK AT MOST 1048576: true; the input reads as it did. -/
def replogKeepsUptoRow : OpenClaim := { program := "ytkcaccppmenfmaa", sum := "0beba2c3cfa6dbefb430ec006e2bd3f06240182d3152cf9871320681b6520d34", func := "workflow/workflowlaw52.ReplogKeeps", spec := "replogKeeps", apart := false, narrowed := true }
def ReplogKeepsUptoSaid : Prop := replogKeepsUptoRow.holds Try.pinned (OpenSpec.upto replogKeepsSpec)

/-- 'workflowlaw52.ReplogLeads', WHERE WHAT IT READS IS OF BULK AT MOST 1048576: true; the input reads as it did. -/
def replogLeadsUptoRow : OpenClaim := { program := "ytkcaccppmenfmaa", sum := "0beba2c3cfa6dbefb430ec006e2bd3f06240182d3152cf9871320681b6520d34", func := "workflow/workflowlaw52.ReplogLeads", spec := "replogLeads", apart := false, narrowed := true }
def ReplogLeadsUptoSaid : Prop := replogLeadsUptoRow.holds Try.pinned (OpenSpec.upto replogLeadsSpec)

/-- 'workflowlaw52.ReplogReads', WHERE WHAT IT READS IS OF BULK AT MOST 1048576: true; the input reads as it did. -/
def replogReadsUptoRow : OpenClaim := { program := "ytkcaccppmenfmaa", sum := "0beba2c3cfa6dbefb430ec006e2bd3f06240182d3152cf9871320681b6520d34", func := "workflow/workflowlaw52.ReplogReads", spec := "replogReads", unfollowed := true, recurses := true, apart := false, narrowed := true }
def ReplogReadsUptoSaid : Prop := replogReadsUptoRow.holds Try.pinned (OpenSpec.upto replogReadsSpec)

/-- 'workflowlaw54.BallotNewer', WHERE WHAT IT READS IS OF BULK AT MOST 1048576: true; the input reads as it did. -/
def ballotNewerUptoRow : OpenClaim := { program := "ytkcaccppmenfmaa", sum := "0beba2c3cfa6dbefb430ec006e2bd3f06240182d3152cf9871320681b6520d34", func := "workflow/workflowlaw54.BallotNewer", spec := "ballotNewer", apart := false, narrowed := true }
def BallotNewerUptoSaid : Prop := ballotNewerUptoRow.holds Try.pinned (OpenSpec.upto ballotNewerSpec)

/-- 'workflowlaw54.BallotAsk', WHERE WHAT IT READS IS OF BULK AT MOST 1048576: true; the input reads as it did. -/
def ballotAskUptoRow : OpenClaim := { program := "ytkcaccppmenfmaa", sum := "0beba2c3cfa6dbefb430ec006e2bd3f06240182d3152cf9871320681b6520d34", func := "workflow/workflowlaw54.BallotAsk", spec := "ballotAsk", apart := false, narrowed := true }
def BallotAskUptoSaid : Prop := ballotAskUptoRow.holds Try.pinned (OpenSpec.upto ballotAskSpec)

/-- 'workflowlaw54.BallotStand', WHERE WHAT IT READS IS OF BULK AT MOST 1048576: true; the input reads as it did. -/
def ballotStandUptoRow : OpenClaim := { program := "ytkcaccppmenfmaa", sum := "0beba2c3cfa6dbefb430ec006e2bd3f06240182d3152cf9871320681b6520d34", func := "workflow/workflowlaw54.BallotStand", spec := "ballotStand", apart := false, narrowed := true }
def BallotStandUptoSaid : Prop := ballotStandUptoRow.holds Try.pinned (OpenSpec.upto ballotStandSpec)

/-- 'workflowlaw54.BallotOnce', WHERE WHAT IT READS IS OF BULK AT MOST 1048576: true; the input reads as it did. -/
def ballotOnceUptoRow : OpenClaim := { program := "ytkcaccppmenfmaa", sum := "0beba2c3cfa6dbefb430ec006e2bd3f06240182d3152cf9871320681b6520d34", func := "workflow/workflowlaw54.BallotOnce", spec := "ballotOnce", apart := false, narrowed := true }
def BallotOnceUptoSaid : Prop := ballotOnceUptoRow.holds Try.pinned (OpenSpec.upto ballotOnceSpec)

/-- 'workflowlaw54.BallotUpToDate', WHERE WHAT IT READS IS OF BULK AT MOST 1048576: true; the input reads as it did. -/
def ballotUpToDateUptoRow : OpenClaim := { program := "ytkcaccppmenfmaa", sum := "0beba2c3cfa6dbefb430ec006e2bd3f06240182d3152cf9871320681b6520d34", func := "workflow/workflowlaw54.BallotUpToDate", spec := "ballotUpToDate", apart := false, narrowed := true }
def BallotUpToDateUptoSaid : Prop := ballotUpToDateUptoRow.holds Try.pinned (OpenSpec.upto ballotUpToDateSpec)

end Rows
end Go.Proofs.Ytkcaccppmenfmaa
